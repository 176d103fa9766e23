/- RotorRing and RotorTurns: the laws' walks. Conditions: as at each lemma. -/
import Derived.Test.YtnmbkhofikbcjaaRotorPts
import Derived.Test.YtnmbkhofikbcjaaRotorAlg
namespace Go.Proofs.Ytnmbkhofikbcjaa
open Go.RowKit Flt

theorem same_is (p : Int) (w : World) : (binOp .eql 41 (.complex .f64 (X p) (Y p)) (.complex .f64 (X p) (Y p))).run Try.prog w = .ok (.bool true) w :=
  lit_eq _ _ _ _ (repX p) (repY p) w
theorem same_not (p : Int) (w : World) : (binOp .neq 41 (.complex .f64 (X p) (Y p)) (.complex .f64 (X p) (Y p))).run Try.prog w = .ok (.bool false) w := by
  rw [cne 41 (repX p) (repY p) (repX p) (repY p)]; simp
theorem plus_zero (v : Int) (h : 0 ≤ v ∧ v ≤ 4294967295) (w : World) :
    Calls Try.prog 26 #[.complex .f64 (X v) (Y v), .complex .f64 0 0] w fun e w' => e = .returned (.tuple #[.complex .f64 (X v) (Y v), .bool true]) ∧ Upd Non w w' := by
  have h1 := plus_spec v 0 w
  rwa [show X 0 = 0 from by decide, show Y 0 = 0 from by decide, plusW_zero v h] at h1
theorem times_one (v : Int) (h : 0 ≤ v ∧ v ≤ 4294967295) (w : World) :
    Calls Try.prog 27 #[.complex .f64 (X v) (Y v), .complex .f64 4607182418800017408 0] w fun e w' => e = .returned (.tuple #[.complex .f64 (X v) (Y v), .bool true]) ∧ Upd Non w w' := by
  have h1 := times_spec v 1 w
  rwa [show X 1 = 4607182418800017408 from by decide, show Y 1 = 0 from by decide, timesW_one v h] at h1
theorem times_i_spec (v : Int) (w : World) :
    Calls Try.prog 27 #[.complex .f64 (X v) (Y v), .complex .f64 0 4607182418800017408] w fun e w' => e = .returned (.tuple #[.complex .f64 (X (turnW 1 v)) (Y (turnW 1 v)), .bool true]) ∧ Upd Non w w' := by
  have h1 := times_spec v 65536 w
  rwa [Xi, Yi] at h1
theorem plus_as (v u p : Int) (h : plusW v u = p) (w : World) :
    Calls Try.prog 26 #[.complex .f64 (X v) (Y v), .complex .f64 (X u) (Y u)] w fun e w' => e = .returned (.tuple #[.complex .f64 (X p) (Y p), .bool true]) ∧ Upd Non w w' := h ▸ plus_spec v u w
theorem times_as (v u p : Int) (h : timesW v u = p) (w : World) :
    Calls Try.prog 27 #[.complex .f64 (X v) (Y v), .complex .f64 (X u) (Y u)] w fun e w' => e = .returned (.tuple #[.complex .f64 (X p) (Y p), .bool true]) ∧ Upd Non w w' := h ▸ times_spec v u w
theorem turn_as (v k p : Int) (h0 : 0 ≤ k ∧ k ≤ 4294967295) (h : turnW (k % 4).toNat v = p) (w : World) :
    Calls Try.prog 28 #[.complex .f64 (X v) (Y v), .int .u32 k] w fun e w' => e = .returned (.tuple #[.complex .f64 (X p) (Y p), .bool true]) ∧ Upd Non w w' := h ▸ turn_spec v k h0.1 h0.2 w

set_option maxRecDepth 100000 in
set_option maxHeartbeats 4000000 in
theorem ring_law (v u k : Int) (hv : 0 ≤ v ∧ v ≤ 4294967295) (hu : 0 ≤ u ∧ u ≤ 4294967295) (hk : 0 ≤ k ∧ k ≤ 4294967295) (w : World) :
    Calls Try.prog 6 #[.int .u32 v, .int .u32 u, .int .u32 k] w fun e w' => e = .returned (.bool true) ∧ Upd Non w w' := by
  have HV := Lib.hid hv
  have HU := Lib.hid hu
  have HK := Lib.hid hk
  clear hv hu hk
  have q1 := fun p w => same_is p w
  have q2 := fun p w => same_not p w
  go_enter Try.func6, Try.ntmps6
  go_wp2_with fail
  refine (awake_spec _).mono ?_
  rintro e w1 ⟨rfl, U1⟩
  go_wp2_with fail
  refine (point_spec' v HV.out.1 HV.out.2 _).mono ?_
  rintro e w2 ⟨rfl, rfl⟩
  go_wp2_with fail
  refine (point_spec' u HU.out.1 HU.out.2 _).mono ?_
  rintro e w2 ⟨rfl, rfl⟩
  go_wp2_with fail
  refine (point_spec' k HK.out.1 HK.out.2 _).mono ?_
  rintro e w2 ⟨rfl, rfl⟩
  go_wp2_with fail
  refine (plus_spec v u _).mono ?_
  rintro e w2 ⟨rfl, U2⟩
  go_wp2_with fail
  refine (plus_as u v _ (plusW_comm u v) _).mono ?_
  rintro e w3 ⟨rfl, U3⟩
  go_wp2_with fail
  refine (times_spec v u _).mono ?_
  rintro e w4 ⟨rfl, U4⟩
  go_wp2_with fail
  refine (times_as u v _ (timesW_comm u v) _).mono ?_
  rintro e w5 ⟨rfl, U5⟩
  go_wp2_with fail
  refine (plus_as _ k _ (plusW_assoc v u k) _).mono ?_
  rintro e w6 ⟨rfl, U6⟩
  go_wp2_with fail
  refine (plus_spec u k _).mono ?_
  rintro e w7 ⟨rfl, U7⟩
  go_wp2_with fail
  refine (plus_spec v _ _).mono ?_
  rintro e w8 ⟨rfl, U8⟩
  go_wp2_with fail
  refine (times_as _ k _ (timesW_assoc v u k) _).mono ?_
  rintro e w9 ⟨rfl, U9⟩
  go_wp2_with fail
  refine (times_spec u k _).mono ?_
  rintro e w10 ⟨rfl, U10⟩
  go_wp2_with fail
  refine (times_spec v _ _).mono ?_
  rintro e w11 ⟨rfl, U11⟩
  go_wp2_with fail
  refine (times_as v _ _ (times_plusW v u k) _).mono ?_
  rintro e w12 ⟨rfl, U12⟩
  go_wp2_with fail
  refine (times_spec v k _).mono ?_
  rintro e w13 ⟨rfl, U13⟩
  go_wp2_with fail
  refine (plus_spec _ _ _).mono ?_
  rintro e w14 ⟨rfl, U14⟩
  go_wp2_with fail
  refine (plus_zero v HV.out _).mono ?_
  rintro e w15 ⟨rfl, U15⟩
  go_wp2_with fail
  refine (times_one v HV.out _).mono ?_
  rintro e w16 ⟨rfl, U16⟩
  go_wp2_with fail
  go_ret
  exact ⟨rfl, by ((with_reducible repeat' first | exact Upd.refl _ _ | apply Upd.drew | apply Upd.drewN | apply Upd.alloc | refine Upd.setCell ?_ ?_ | refine Upd.call U16 ?_ ?_ | refine Upd.call U15 ?_ ?_ | refine Upd.call U14 ?_ ?_ | refine Upd.call U13 ?_ ?_ | refine Upd.call U12 ?_ ?_ | refine Upd.call U11 ?_ ?_ | refine Upd.call U10 ?_ ?_ | refine Upd.call U9 ?_ ?_ | refine Upd.call U8 ?_ ?_ | refine Upd.call U7 ?_ ?_ | refine Upd.call U6 ?_ ?_ | refine Upd.call U5 ?_ ?_ | refine Upd.call U4 ?_ ?_ | refine Upd.call U3 ?_ ?_ | refine Upd.call U2 ?_ ?_ | refine Upd.call U1 ?_ ?_) <;> first | (intro _ _ h; exact h) | (intro _ _ h; exact h.elim) | (intro i h1 h2; exfalso; (try simp only at h2); omega) | (left; rfl) | (right; dsimp only; omega) | (right; omega))⟩

set_option maxRecDepth 100000 in
set_option maxHeartbeats 4000000 in
theorem turns_law (v j k : Int) (hv : 0 ≤ v ∧ v ≤ 4294967295) (hj : 0 ≤ j ∧ j ≤ 4294967295) (hk : 0 ≤ k ∧ k ≤ 4294967295) (w : World) :
    Calls Try.prog 7 #[.int .u32 v, .int .u32 j, .int .u32 k] w fun e w' => e = .returned (.bool true) ∧ Upd Non w w' := by
  obtain ⟨m, hm, em⟩ : ∃ m : Nat, m < 4 ∧ (j % 4).toNat = m := ⟨(j % 4).toNat, by omega, rfl⟩
  obtain ⟨n, hn, en⟩ : ∃ n : Nat, n < 4 ∧ (k % 4).toNat = n := ⟨(k % 4).toNat, by omega, rfl⟩
  have t1 : j.tmod 4 = (m : Int) := by rw [Int.tmod_eq_emod_of_nonneg hj.1]; omega
  have t2 : k.tmod 4 = (n : Int) := by rw [Int.tmod_eq_emod_of_nonneg hk.1]; omega
  have t3 : ((m : Int) + n) % 4294967296 = ((m + n : Nat) : Int) := by omega
  have q1 := fun p w => same_is p w
  have q2 := fun w => lit_eq 0 0 0 0 (rep_fl 0 (by decide)) (rep_fl 0 (by decide)) w
  have EM := Lib.hid em
  have EN := Lib.hid en
  have HM := Lib.hid hm
  have HN := Lib.hid hn
  have HV := Lib.hid hv
  have HJ := Lib.hid hj
  have HK := Lib.hid hk
  have HS : Hid (turnW (((m + n : Nat) : Int) % 4).toNat v = turnW n (turnW m v)) := Lib.hid (by
    rw [turn_add, turn_low v hv (m + n) (by omega), show (((m + n : Nat) : Int) % 4).toNat = (m + n) % 4 from by omega])
  have HF : Hid (turnW 4 v = v) := Lib.hid (turn_four v hv)
  clear em en hm hn hv hj hk
  go_enter Try.func7, Try.ntmps7
  go_wp2_with fail
  refine (awake_spec _).mono ?_
  rintro e w1 ⟨rfl, U1⟩
  go_wp2_with fail
  refine (point_spec' v HV.out.1 HV.out.2 _).mono ?_
  rintro e w2 ⟨rfl, rfl⟩
  go_wp2_with fail
  refine (turn_as v j (turnW m v) HJ.out (by rw [EM.out]) _).mono ?_
  rintro e w2 ⟨rfl, U2⟩
  go_wp2_with fail
  refine (turn_as (turnW m v) k (turnW n (turnW m v)) HK.out (by rw [EN.out]) _).mono ?_
  rintro e w3 ⟨rfl, U3⟩
  go_wp2_with fail
  refine (turn_as v ((m + n : Nat) : Int) (turnW n (turnW m v)) (by have := HM.out; have := HN.out; omega) HS.out _).mono ?_
  rintro e w4 ⟨rfl, U4⟩
  go_wp2_with fail
  refine (times_i_spec v _).mono ?_
  rintro e w5 ⟨rfl, U5⟩
  go_wp2_with fail
  refine (turn_as v 1 (turnW 1 v) (by decide) rfl _).mono ?_
  rintro e w6 ⟨rfl, U6⟩
  go_wp2_with fail
  refine (turn_as v 4 v (by decide) rfl _).mono ?_
  rintro e w7 ⟨rfl, U7⟩
  go_wp2_with fail
  refine (turn_as v 2 (turnW 2 v) (by decide) rfl _).mono ?_
  rintro e w8 ⟨rfl, U8⟩
  go_wp2_with fail
  refine (plus_as v (turnW 2 v) 0 (plus_two v) _).mono ?_
  rintro e w9 ⟨rfl, U9⟩
  rw [show X 0 = 0 from by decide, show Y 0 = 0 from by decide]
  go_wp2_with fail
  go_ret
  exact ⟨rfl, by ((with_reducible repeat' first | exact Upd.refl _ _ | apply Upd.drew | apply Upd.drewN | apply Upd.alloc | refine Upd.setCell ?_ ?_ | refine Upd.call U9 ?_ ?_ | refine Upd.call U8 ?_ ?_ | refine Upd.call U7 ?_ ?_ | refine Upd.call U6 ?_ ?_ | refine Upd.call U5 ?_ ?_ | refine Upd.call U4 ?_ ?_ | refine Upd.call U3 ?_ ?_ | refine Upd.call U2 ?_ ?_ | refine Upd.call U1 ?_ ?_) <;> first | (intro _ _ h; exact h) | (intro _ _ h; exact h.elim) | (intro i h1 h2; exfalso; (try simp only at h2); omega) | (left; rfl) | (right; dsimp only; omega) | (right; omega))⟩
end Go.Proofs.Ytnmbkhofikbcjaa
