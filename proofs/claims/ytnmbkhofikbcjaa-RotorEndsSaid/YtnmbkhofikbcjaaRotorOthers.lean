/- RotorOthers: the law's walk. Conditions: as at each lemma. -/
import Derived.Test.YtnmbkhofikbcjaaRotorPts
namespace Go.Proofs.Ytnmbkhofikbcjaa
open Go.RowKit Flt

theorem isWhole_spec (x : Nat) (w : World) : Calls Try.prog 21 #[.float .f64 x] w fun e w' => e = .returned (.bool (mayB x)) ∧ w = w' := by
  have q1 := geB_eq x
  have q2 := leB_eq x
  cases h1 : geB x
  · have hm : mayB x = false := by unfold mayB; rw [h1]; rfl
    rw [h1] at q1
    rw [hm]
    clear h1 hm q2
    go_enter Try.func21, Try.ntmps21
    go_wp2
    go_ret
    exact ⟨rfl, rfl⟩
  · cases h2 : leB x
    · have hm : mayB x = false := by unfold mayB; rw [h1, h2]; rfl
      rw [h1] at q1
      rw [h2] at q2
      rw [hm]
      clear h1 h2 hm
      go_enter Try.func21, Try.ntmps21
      go_wp2
      go_ret
      exact ⟨rfl, rfl⟩
    · have hm : mayB x = (FloatKind.f64.format.order (fl (trunc x)) x == some .eq) := by unfold mayB; rw [h1, h2]; exact order_sym _ _
      have q3 := fun w => cvFN' h1 h2 w
      have q4 := fun w => cvNF (trunc x) w
      rw [h1] at q1
      rw [h2] at q2
      rw [hm]
      clear h1 h2 hm
      go_enter Try.func21, Try.ntmps21
      go_wp2
      go_ret
      exact ⟨rfl, rfl⟩

set_option maxRecDepth 100000 in
set_option maxHeartbeats 4000000 in
theorem none_spec (x y : Nat) (v : Int) (h : (mayB x && mayB y) = false) (hv : 0 ≤ v ∧ v ≤ 4294967295) (w : World) :
    Calls Try.prog 22 #[.complex .f64 x y, .int .u32 v] w fun e w' => e = .returned (.bool true) ∧ Upd Non w w' := by
  have h2 : ((mayB x && mayB y) && (mayB (X v) && mayB (Y v))) = false := by rw [h]; rfl
  have h3 : ((mayB (X v) && mayB (Y v)) && (mayB x && mayB y)) = false := by rw [h, Bool.and_false]
  have H := Lib.hid h
  have H2 := Lib.hid h2
  have H3 := Lib.hid h3
  have HV := Lib.hid hv
  clear h h2 h3 hv
  have q2 := fun w => lit_eq 0 0 0 0 (rep_fl 0 (by decide)) (rep_fl 0 (by decide)) w
  go_enter Try.func22, Try.ntmps22
  go_wp2_with fail
  refine (word_no x y H.out _).mono ?_
  rintro e w1 ⟨rfl, U1⟩
  go_wp2_with fail
  refine (point_spec' v HV.out.1 HV.out.2 _).mono ?_
  rintro e w2 ⟨rfl, rfl⟩
  go_wp2_with fail
  refine (plus_no x y _ _ H2.out _).mono ?_
  rintro e w2 ⟨rfl, U2⟩
  go_wp2_with fail
  refine (point_spec' v HV.out.1 HV.out.2 _).mono ?_
  rintro e w3 ⟨rfl, rfl⟩
  go_wp2_with fail
  refine (plus_no _ _ x y H3.out _).mono ?_
  rintro e w3 ⟨rfl, U3⟩
  go_wp2_with fail
  refine (point_spec' v HV.out.1 HV.out.2 _).mono ?_
  rintro e w4 ⟨rfl, rfl⟩
  go_wp2_with fail
  refine (times_no x y _ _ H2.out _).mono ?_
  rintro e w4 ⟨rfl, U4⟩
  go_wp2_with fail
  refine (point_spec' v HV.out.1 HV.out.2 _).mono ?_
  rintro e w5 ⟨rfl, rfl⟩
  go_wp2_with fail
  refine (times_no _ _ x y H3.out _).mono ?_
  rintro e w5 ⟨rfl, U5⟩
  go_wp2_with fail
  refine (turn_no x y v H.out _).mono ?_
  rintro e w6 ⟨rfl, U6⟩
  go_wp2_with fail
  go_ret
  exact ⟨rfl, by ((with_reducible repeat' first | exact Upd.refl _ _ | apply Upd.drew | apply Upd.drewN | apply Upd.alloc | refine Upd.setCell ?_ ?_ | refine Upd.call U6 ?_ ?_ | refine Upd.call U5 ?_ ?_ | refine Upd.call U4 ?_ ?_ | refine Upd.call U3 ?_ ?_ | refine Upd.call U2 ?_ ?_ | refine Upd.call U1 ?_ ?_) <;> first | (intro _ _ h; exact h) | (intro _ _ h; exact h.elim) | (intro i h1 h2; exfalso; (try simp only at h2); omega) | (left; rfl) | (right; dsimp only; omega) | (right; omega))⟩

theorem others_law (x y : Nat) (v : Int) (hv : 0 ≤ v ∧ v ≤ 4294967295) (w : World) :
    Calls Try.prog 5 #[.float .f64 x, .float .f64 y, .int .u32 v] w fun e w' => e = .returned (.bool true) ∧ Upd Non w w' := by
  have q0 := fun w => rComplex x y w
  have HV := Lib.hid hv
  clear hv
  cases h : (mayB x && mayB y)
  · have H := Lib.hid h
    cases h1 : mayB x
    · have H1 := Lib.hid h1
      clear h h1
      go_enter Try.func5, Try.ntmps5
      go_wp2_with fail
      refine (isWhole_spec x _).mono ?_
      rintro e w1 ⟨rfl, rfl⟩
      rw [H1.out]
      go_wp2_with fail
      refine (none_spec x y v H.out HV.out _).mono ?_
      rintro e w1 ⟨rfl, U1⟩
      go_wp2_with fail
      refine (awake_spec _).mono ?_
      rintro e w2 ⟨rfl, U2⟩
      go_wp2_with fail
      go_ret
      exact ⟨rfl, by ((with_reducible repeat' first | exact Upd.refl _ _ | apply Upd.drew | apply Upd.drewN | apply Upd.alloc | refine Upd.setCell ?_ ?_ | refine Upd.call U2 ?_ ?_ | refine Upd.call U1 ?_ ?_) <;> first | (intro _ _ h; exact h) | (intro _ _ h; exact h.elim) | (intro i h1 h2; exfalso; (try simp only at h2); omega) | (left; rfl) | (right; dsimp only; omega) | (right; omega))⟩
    · have h2 : mayB y = false := by rw [h1] at h; exact h
      have H1 := Lib.hid h1
      have H2 := Lib.hid h2
      clear h h1 h2
      go_enter Try.func5, Try.ntmps5
      go_wp2_with fail
      refine (isWhole_spec x _).mono ?_
      rintro e w1 ⟨rfl, rfl⟩
      rw [H1.out]
      go_wp2_with fail
      refine (isWhole_spec y _).mono ?_
      rintro e w1 ⟨rfl, rfl⟩
      rw [H2.out]
      go_wp2_with fail
      refine (none_spec x y v H.out HV.out _).mono ?_
      rintro e w1 ⟨rfl, U1⟩
      go_wp2_with fail
      refine (awake_spec _).mono ?_
      rintro e w2 ⟨rfl, U2⟩
      go_wp2_with fail
      go_ret
      exact ⟨rfl, by ((with_reducible repeat' first | exact Upd.refl _ _ | apply Upd.drew | apply Upd.drewN | apply Upd.alloc | refine Upd.setCell ?_ ?_ | refine Upd.call U2 ?_ ?_ | refine Upd.call U1 ?_ ?_) <;> first | (intro _ _ h; exact h) | (intro _ _ h; exact h.elim) | (intro i h1 h2; exfalso; (try simp only at h2); omega) | (left; rfl) | (right; dsimp only; omega) | (right; omega))⟩
  · have hh := Bool.and_eq_true_iff.1 h
    obtain ⟨r1, a1, a2⟩ := ok_of_may hh.1
    obtain ⟨r2, b1, b2⟩ := ok_of_may hh.2
    have g1 := may_of_ok r1 a1 a2
    have g2 := may_of_ok r2 b1 b2
    have q3 := fun w => cvFN' g1.1 g1.2.1 w
    have q4 := fun w => cvFN' g2.1 g2.2.1 w
    have H1 := Lib.hid hh.1
    have H2 := Lib.hid hh.2
    have HW := Lib.hid (word_yes x y _ _ r1 r2 ⟨a1, a2⟩ ⟨b1, b2⟩)
    clear h hh r1 r2 a1 a2 b1 b2 g1 g2
    go_enter Try.func5, Try.ntmps5
    go_wp2_with fail
    refine (isWhole_spec x _).mono ?_
    rintro e w1 ⟨rfl, rfl⟩
    rw [H1.out]
    go_wp2_with fail
    refine (isWhole_spec y _).mono ?_
    rintro e w1 ⟨rfl, rfl⟩
    rw [H2.out]
    go_wp2_with fail
    refine (HW.out _).mono ?_
    rintro e w1 ⟨rfl, U1⟩
    go_wp2_with fail
    refine (refWord_spec (trunc x) (trunc y) _).mono ?_
    rintro e w2 ⟨rfl, rfl⟩
    go_wp2_with fail
    refine (awake_spec _).mono ?_
    rintro e w2 ⟨rfl, U2⟩
    go_wp2_with fail
    go_ret
    exact ⟨rfl, by ((with_reducible repeat' first | exact Upd.refl _ _ | apply Upd.drew | apply Upd.drewN | apply Upd.alloc | refine Upd.setCell ?_ ?_ | refine Upd.call U2 ?_ ?_ | refine Upd.call U1 ?_ ?_) <;> first | (intro _ _ h; exact h) | (intro _ _ h; exact h.elim) | (intro i h1 h2; exfalso; (try simp only at h2); omega) | (left; rfl) | (right; dsimp only; omega) | (right; omega))⟩
end Go.Proofs.Ytnmbkhofikbcjaa
