/- Contracts of the rotor's test for points. Conditions: as at each lemma. -/
import Derived.Test.YtnmbkhofikbcjaaRotorFns
import Derived.Test.YtnmbkhofikbcjaaFltMay
namespace Go.Proofs.Ytnmbkhofikbcjaa
open Go.RowKit Flt

theorem lo_const : fl (-32768) = 13898108450065350656 := by decide
theorem hi_const : fl 32767 = 4674736138332667904 := by decide
theorem fge (x : Nat) (w : World) : (binOp .geq 40 (.float .f64 x) (.float .f64 13898108450065350656)).run Try.prog w = .ok (.bool (geB x)) w := by
  rw [← lo_const]; simp [binOp, Op.floatCmp, FloatKind.format, geB]
theorem fle (x : Nat) (w : World) : (binOp .leq 40 (.float .f64 x) (.float .f64 4674736138332667904)).run Try.prog w = .ok (.bool (leB x)) w := by
  rw [← hi_const]; simp [binOp, Op.floatCmp, FloatKind.format, leB]
theorem feq (x y : Nat) (w : World) : (binOp .eql 40 (.float .f64 x) (.float .f64 y)).run Try.prog w = .ok (.bool (Ieee.double.order x y == some .eq)) w := by
  simp [binOp, Op.floatCmp, FloatKind.format]
theorem cvFI' {x : Nat} (h1 : geB x = true) (h2 : leB x = true) (w : World) : (convert 40 2 (.float .f64 x)).run Try.prog w = .ok (.int .i64 (trunc x)) w := by
  obtain ⟨s, m, p, _, hd, r1, r2⟩ := may_range h1 h2
  have hd : (FloatKind.f64.decode x).toInt .zero = some (trunc x) := hd
  have hm : IntKind.i64.min ≤ trunc x ∧ trunc x ≤ IntKind.i64.max := by
    have e1 : IntKind.i64.min = -9223372036854775808 := by decide
    have e2 : IntKind.i64.max = 9223372036854775807 := by decide
    rw [e1, e2]; omega
  have hx : ¬ 9223372036854775807 < trunc x := by omega
  simp [convert, run_underlying Try.underlying40, run_underlying Try.underlying2, Conv.floatToInt, hd, hm, hx]
theorem cvFN' {x : Nat} (h1 : geB x = true) (h2 : leB x = true) (w : World) : (convert 40 3 (.float .f64 x)).run Try.prog w = .ok (.int .i64 (trunc x)) w := by
  obtain ⟨s, m, p, _, hd, r1, r2⟩ := may_range h1 h2
  have hd : (FloatKind.f64.decode x).toInt .zero = some (trunc x) := hd
  have hm : IntKind.i64.min ≤ trunc x ∧ trunc x ≤ IntKind.i64.max := by
    have e1 : IntKind.i64.min = -9223372036854775808 := by decide
    have e2 : IntKind.i64.max = 9223372036854775807 := by decide
    rw [e1, e2]; omega
  have hx : ¬ 9223372036854775807 < trunc x := by omega
  simp [convert, run_underlying Try.underlying40, run_underlying Try.underlying3, Conv.floatToInt, hd, hm, hx]
theorem cvLF (n : Int) (w : World) : (convert 2 40 (.int .i64 n)).run Try.prog w = .ok (.float .f64 (fl n)) w := by
  simp [convert, run_underlying Try.underlying2, run_underlying Try.underlying40, Conv.intToFloat, nearest_fl]
theorem cvNF (n : Int) (w : World) : (convert 3 40 (.int .i64 n)).run Try.prog w = .ok (.float .f64 (fl n)) w := by
  simp [convert, run_underlying Try.underlying3, run_underlying Try.underlying40, Conv.intToFloat, nearest_fl]

theorem geB_eq (x : Nat) : (FloatKind.f64.format.order x 13898108450065350656 == some Ordering.gt || FloatKind.f64.format.order x 13898108450065350656 == some Ordering.eq) = geB x := by unfold geB; rw [lo_const]; rfl
theorem leB_eq (x : Nat) : (FloatKind.f64.format.order x 4674736138332667904 == some Ordering.lt || FloatKind.f64.format.order x 4674736138332667904 == some Ordering.eq) = leB x := by unfold leB; rw [hi_const]; rfl

/-- The program's test, as a closure. -/
theorem may_spec (x : Nat) (w : World) : Calls Try.prog 65 #[.float .f64 x] w fun e w' => e = .returned (.bool (mayB x)) ∧ w = w' := by
  have q1 := geB_eq x
  have q2 := leB_eq x
  cases h1 : geB x
  · have hm : mayB x = false := by unfold mayB; rw [h1]; rfl
    rw [h1] at q1
    rw [hm]
    clear h1 hm q2
    go_enter Try.func65, Try.ntmps65
    go_wp2
    go_ret
    exact ⟨rfl, rfl⟩
  · cases h2 : leB x
    · have hm : mayB x = false := by unfold mayB; rw [h1, h2]; rfl
      rw [h1] at q1
      rw [h2] at q2
      rw [hm]
      clear h1 h2 hm
      go_enter Try.func65, Try.ntmps65
      go_wp2
      go_ret
      exact ⟨rfl, rfl⟩
    · have hm : mayB x = (FloatKind.f64.format.order x (fl (trunc x)) == some .eq) := by unfold mayB; rw [h1, h2]; rfl
      have q3 := fun w => cvFI' h1 h2 w
      have q4 := fun w => cvLF (trunc x) w
      rw [h1] at q1
      rw [h2] at q2
      rw [hm]
      clear h1 h2 hm
      go_enter Try.func65, Try.ntmps65
      go_wp2
      go_ret
      exact ⟨rfl, rfl⟩

/-- The test's maker. -/
theorem whole_spec (w : World) : Calls Try.prog 62 #[] w fun e w' => e = .returned (.func (.func 65) #[] #[]) ∧ w = w' := by
  go_enter Try.func62, Try.ntmps62
  go_wp2
  go_ret
  exact ⟨rfl, rfl⟩

/-- Where all parts are shorts. -/
theorem is_yes (n : Nat) (hn : n ≤ 4) (X Y : Nat → Nat) (g c : Nat) (hX : ∀ j, j < n → mayB (X j) = true ∧ mayB (Y j) = true) (w : World) (hc : ∀ j, j < n → w.cell? ⟨g, j, none⟩ = some (.complex .f64 (X j) (Y j))) :
    Calls Try.prog 53 #[.slice (some ⟨g, 0, none⟩) n c] w fun e w' => e = .returned (.bool true) ∧ w = w' := by
  have HX := Lib.hid hX; clear hX
  have HCC := Lib.hid hc; clear hc
  have qr := rReal
  have qi := rImag
  go_enter Try.func53, Try.ntmps53
  go_wp2_with fail
  refine (whole_spec _).mono ?_
  rintro e w1 ⟨rfl, rfl⟩
  go_wp2_with fail
  go_loop [9] (fun i => ∃ k : Nat, k ≤ n ∧ i = .int .i64 k) (fun i => n - (intOf i).toNat)
  case atStart => exact ⟨0, by omega, rfl⟩
  case round =>
    obtain ⟨k, hk, rfl⟩ := hrel
    by_cases hlt : k < n
    · have h0 := HCC.out k hlt
      obtain ⟨m1, m2⟩ := HX.out k hlt
      have M1 := Lib.hid m1; clear m1
      have M2 := Lib.hid m2; clear m2
      go_wp2_with fail
      refine (may_spec (X k) _).mono ?_
      rintro e w1 ⟨rfl, rfl⟩
      rw [M1.out]
      go_wp2_with fail
      refine (may_spec (Y k) _).mono ?_
      rintro e w1 ⟨rfl, rfl⟩
      rw [M2.out]
      go_wp2_with fail
      go_round
      case rel => exact ⟨k + 1, by omega, by go_num⟩
      case measure => simp [intOf]; omega
    · go_wp2
      go_ret
      exact ⟨rfl, rfl⟩
/-- Where one has a part that is no short. -/
theorem is_no (n m : Nat) (hn : n ≤ 4) (hm : m < n) (X Y : Nat → Nat) (g c : Nat) (hX : ∀ j, j < m → mayB (X j) = true ∧ mayB (Y j) = true) (hbad : (mayB (X m) && mayB (Y m)) = false) (w : World) (hc : ∀ j, j < n → w.cell? ⟨g, j, none⟩ = some (.complex .f64 (X j) (Y j))) :
    Calls Try.prog 53 #[.slice (some ⟨g, 0, none⟩) n c] w fun e w' => e = .returned (.bool false) ∧ w = w' := by
  have HX := Lib.hid hX; clear hX
  have HCC := Lib.hid hc; clear hc
  have qr := rReal
  have qi := rImag
  go_enter Try.func53, Try.ntmps53
  go_wp2_with fail
  refine (whole_spec _).mono ?_
  rintro e w1 ⟨rfl, rfl⟩
  go_wp2_with fail
  go_loop [9] (fun i => ∃ k : Nat, k ≤ m ∧ i = .int .i64 k) (fun i => n - (intOf i).toNat)
  case atStart => exact ⟨0, by omega, rfl⟩
  case round =>
    obtain ⟨k, hk, rfl⟩ := hrel
    have hk' : k < n := by omega
    by_cases hlt : k < m
    · have h0 := HCC.out k hk'
      obtain ⟨m1, m2⟩ := HX.out k hlt
      have M1 := Lib.hid m1; clear m1
      have M2 := Lib.hid m2; clear m2
      go_wp2_with fail
      refine (may_spec (X k) _).mono ?_
      rintro e w1 ⟨rfl, rfl⟩
      rw [M1.out]
      go_wp2_with fail
      refine (may_spec (Y k) _).mono ?_
      rintro e w1 ⟨rfl, rfl⟩
      rw [M2.out]
      go_wp2_with fail
      go_round
      case rel => exact ⟨k + 1, by omega, by go_num⟩
      case measure => simp [intOf]; omega
    · have : k = m := by omega
      subst this
      have h0 := HCC.out k hk'
      cases m1 : mayB (X k)
      · have M1 := Lib.hid m1; clear m1 hbad
        go_wp2_with fail
        refine (may_spec (X k) _).mono ?_
        rintro e w1 ⟨rfl, rfl⟩
        rw [M1.out]
        go_wp2_with fail
        go_ret
        exact ⟨rfl, rfl⟩
      · have m2 : mayB (Y k) = false := by rw [m1] at hbad; exact hbad
        have M1 := Lib.hid m1; clear m1 hbad
        have M2 := Lib.hid m2; clear m2
        go_wp2_with fail
        refine (may_spec (X k) _).mono ?_
        rintro e w1 ⟨rfl, rfl⟩
        rw [M1.out]
        go_wp2_with fail
        refine (may_spec (Y k) _).mono ?_
        rintro e w1 ⟨rfl, rfl⟩
        rw [M2.out]
        go_wp2_with fail
        go_ret
        exact ⟨rfl, rfl⟩
end Go.Proofs.Ytnmbkhofikbcjaa
