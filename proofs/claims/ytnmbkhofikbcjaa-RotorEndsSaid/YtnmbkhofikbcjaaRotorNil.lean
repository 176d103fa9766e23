/- Contracts of the rotor's registers where there is no rotor. Conditions: as at each lemma. -/
import Derived.Test.YtnmbkhofikbcjaaRotorRead
import Derived.Laws.FloatArith
namespace Go.Proofs.Ytnmbkhofikbcjaa
open Go.RowKit Flt

/-- No rotor: nil, or one that was not made. -/
def NoRot (w : World) (p : Value) : Prop := p = .pointer none ∨ ∃ b, p = .pointer (some ⟨b, 0, none⟩) ∧ w.cell? ⟨b, 2, none⟩ = some (.bool false)
theorem NoRot.upd {a b : World} {p : Value} (u : Upd Non a b) (h : NoRot a p) : NoRot b p := by
  rcases h with h | ⟨k, h, hc⟩
  · exact .inl h
  · exact .inr ⟨k, h, u.cell_eq id hc⟩

theorem write_none (p : Value) (reg x : Int) (w : World) (h : NoRot w p) :
    Calls Try.prog 38 #[p, .int .i64 reg, .int .u32 x] w fun e w' => e = .returned (.tuple #[]) ∧ Upd Non w w' := by
  rcases h with rfl | ⟨b, rfl, hc⟩
  all_goals
    go_enter Try.func38, Try.ntmps38
    go_wp2
    refine bodyPost_ret (results_none rfl _ _ _) rfl ?_
    exact ⟨rfl, by ((with_reducible repeat' first | exact Upd.refl _ _ | apply Upd.drew | apply Upd.drewN | apply Upd.alloc | refine Upd.setCell ?_ ?_) <;> first | (intro _ _ h; exact h) | (intro _ _ h; exact h.elim) | (intro i h1 h2; exfalso; (try simp only at h2); omega) | (left; rfl) | (right; dsimp only; omega) | (right; omega))⟩

theorem state_none (p : Value) (w : World) (h : NoRot w p) :
    Calls Try.prog 40 #[p] w fun e w' => e = .returned (.tuple #[.int .u32 0, .int .u32 0]) ∧ Upd Non w w' := by
  rcases h with rfl | ⟨b, rfl, hc⟩
  all_goals
    go_enter Try.func40, Try.ntmps40
    go_wp2
    go_ret2
    exact ⟨rfl, by ((with_reducible repeat' first | exact Upd.refl _ _ | apply Upd.drew | apply Upd.drewN | apply Upd.alloc | refine Upd.setCell ?_ ?_) <;> first | (intro _ _ h; exact h) | (intro _ _ h; exact h.elim) | (intro i h1 h2; exfalso; (try simp only at h2); omega) | (left; rfl) | (right; dsimp only; omega) | (right; omega))⟩

theorem read_none (p : Value) (reg : Int) (w : World) (h : NoRot w p) :
    Calls Try.prog 41 #[p, .int .i64 reg] w fun e w' => e = .returned (.int .u32 0) ∧ Upd Non w w' := by
  have H := Lib.hid h
  clear h
  by_cases h0 : reg = 0
  · subst h0
    go_enter Try.func41, Try.ntmps41
    go_wp2_with fail
    refine (state_none p _ H.out).mono ?_
    rintro e w1 ⟨rfl, U1⟩
    go_wp2_with fail
    go_ret
    exact ⟨rfl, by ((with_reducible repeat' first | exact Upd.refl _ _ | apply Upd.drew | apply Upd.drewN | apply Upd.alloc | refine Upd.setCell ?_ ?_ | refine Upd.call U1 ?_ ?_) <;> first | (intro _ _ h; exact h) | (intro _ _ h; exact h.elim) | (intro i h1 h2; exfalso; (try simp only at h2); omega) | (left; rfl) | (right; dsimp only; omega) | (right; omega))⟩
  · by_cases h4 : reg = 4
    · subst h4
      go_enter Try.func41, Try.ntmps41
      go_wp2_with fail
      refine (state_none p _ H.out).mono ?_
      rintro e w1 ⟨rfl, U1⟩
      go_wp2_with fail
      go_ret
      exact ⟨rfl, by ((with_reducible repeat' first | exact Upd.refl _ _ | apply Upd.drew | apply Upd.drewN | apply Upd.alloc | refine Upd.setCell ?_ ?_ | refine Upd.call U1 ?_ ?_) <;> first | (intro _ _ h; exact h) | (intro _ _ h; exact h.elim) | (intro i h1 h2; exfalso; (try simp only at h2); omega) | (left; rfl) | (right; dsimp only; omega) | (right; omega))⟩
    · go_enter Try.func41, Try.ntmps41
      go_wp2_with fail
      refine (state_none p _ H.out).mono ?_
      rintro e w1 ⟨rfl, U1⟩
      go_wp2_with fail
      go_ret
      exact ⟨rfl, by ((with_reducible repeat' first | exact Upd.refl _ _ | apply Upd.drew | apply Upd.drewN | apply Upd.alloc | refine Upd.setCell ?_ ?_ | refine Upd.call U1 ?_ ?_) <;> first | (intro _ _ h; exact h) | (intro _ _ h; exact h.elim) | (intro i h1 h2; exfalso; (try simp only at h2); omega) | (left; rfl) | (right; dsimp only; omega) | (right; omega))⟩

theorem copy_none (p : Value) (w : World) (h : NoRot w p) :
    Calls Try.prog 43 #[p] w fun e w' => e = .returned (.pointer none) ∧ Upd Non w w' := by
  rcases h with rfl | ⟨b, rfl, hc⟩
  all_goals
    go_enter Try.func43, Try.ntmps43
    go_wp2
    go_ret
    exact ⟨rfl, by ((with_reducible repeat' first | exact Upd.refl _ _ | apply Upd.drew | apply Upd.drewN | apply Upd.alloc | refine Upd.setCell ?_ ?_) <;> first | (intro _ _ h; exact h) | (intro _ _ h; exact h.elim) | (intro i h1 h2; exfalso; (try simp only at h2); omega) | (left; rfl) | (right; dsimp only; omega) | (right; omega))⟩

/-! ### The numbers of RotorEnds -/
def partsV : Array Value := #[.int .u32 0, .int .u32 1, .int .u32 2, .int .u32 32766, .int .u32 32767, .int .u32 32768, .int .u32 32769, .int .u32 65535, .int .u32 256, .int .u32 65280]
def pv (j : Nat) : Int := [0, 1, 2, 32766, 32767, 32768, 32769, 65535, 256, 65280].getD j 0
theorem lt10 {k : Nat} (h : k < 10) : k = 0 ∨ k = 1 ∨ k = 2 ∨ k = 3 ∨ k = 4 ∨ k = 5 ∨ k = 6 ∨ k = 7 ∨ k = 8 ∨ k = 9 := by omega
theorem parts_at {j : Nat} (h : j < 10) : partsV[j]? = some (.int .u32 (pv j)) ∧ 0 ≤ pv j ∧ pv j ≤ 65535 := by
  rcases lt10 h with rfl | rfl | rfl | rfl | rfl | rfl | rfl | rfl | rfl | rfl
  all_goals exact ⟨rfl, by decide, by decide⟩
def one : Nat := 4607182418800017408
/-- The word that a division without a number gives: any of those that are no numbers. -/
def nanW (t : Nat) : Nat := (t % 2) * 2 ^ 63 + 0x7ff0000000000000 + 1 + (t / 2) % (2 ^ 52 - 1)
theorem nanW_form (t : Nat) : ∃ a m : Nat, (a = 0 ∨ a = 1) ∧ m < 4503599627370495 ∧ nanW t = a * 9223372036854775808 + 9218868437227405312 + 1 + m :=
  ⟨t % 2, t / 2 % 4503599627370495, by omega, Nat.mod_lt _ (by decide), rfl⟩
theorem nan_read (t : Nat) : ∃ s p, Ieee.double.read (nanW t) = .nan s p := by
  have e1 : Ieee.double.signWeight = 9223372036854775808 := by decide
  have e2 : Ieee.double.binade = 4503599627370496 := by decide
  have e3 : Ieee.double.infRung = 9218868437227405312 := by decide
  refine ⟨nanW t / Ieee.double.signWeight % 2 == 1, nanW t % Ieee.double.signWeight - Ieee.double.infRung, ?_⟩
  unfold Ieee.Format.read
  simp only [e1, e2, e3]
  obtain ⟨a, m, ha, hm, h⟩ := nanW_form t
  rw [h]
  clear h
  rcases ha with rfl | rfl
  · rw [if_neg (by omega), if_neg (by omega), if_neg (by omega)]
  · rw [if_neg (by omega), if_neg (by omega), if_neg (by omega)]
theorem nan_may (t : Nat) : mayB (nanW t) = false := by
  obtain ⟨s, p, h⟩ := nan_read t
  have h1 : ∀ y, Ieee.double.order (nanW t) y = none := fun y => by unfold Ieee.Format.order; rw [h]; rfl
  unfold mayB geB
  rw [h1]; rfl
theorem one_may : mayB one = true := (may_of_ok (n := 1) (by rw [show one = fl 1 by decide]; exact rep_fl 1 (by decide)) (by decide) (by decide)).2.2
def badV (x : Nat) : Array Value := #[.float .f64 4602678819172646912, .float .f64 13826050856027422720, .float .f64 4674736413210574848, .float .f64 13898108587504304128, .float .f64 9094988921128908188, .float .f64 18318360957983683996,
  .float .f64 9218868437227405312, .float .f64 18442240474082181120, .float .f64 x, .float .f64 118622047889322841, .float .f64 4674736275771621376]
def bv (x j : Nat) : Nat := [4602678819172646912, 13826050856027422720, 4674736413210574848, 13898108587504304128, 9094988921128908188, 18318360957983683996, 9218868437227405312, 18442240474082181120, x, 118622047889322841, 4674736275771621376].getD j 0
theorem lt11 {k : Nat} (h : k < 11) : k = 0 ∨ k = 1 ∨ k = 2 ∨ k = 3 ∨ k = 4 ∨ k = 5 ∨ k = 6 ∨ k = 7 ∨ k = 8 ∨ k = 9 ∨ k = 10 := by omega
theorem bad_at (t : Nat) {j : Nat} (h : j < 11) : (badV (nanW t))[j]? = some (.float .f64 (bv (nanW t) j)) ∧ (mayB (bv (nanW t) j) && mayB one) = false ∧ (mayB one && mayB (bv (nanW t) j)) = false := by
  have e : ∀ x, mayB x = false → (mayB x && mayB one) = false ∧ (mayB one && mayB x) = false := fun x h => by rw [h]; exact ⟨rfl, Bool.and_false _⟩
  rcases lt11 h with rfl | rfl | rfl | rfl | rfl | rfl | rfl | rfl | rfl | rfl | rfl
  all_goals first | exact ⟨rfl, e _ (nan_may t)⟩ | exact ⟨rfl, e _ (by kernel_rfl)⟩
theorem q_inf (w : World) : (binOp .quo 40 (.float .f64 4607182418800017408) (.float .f64 0)).run Try.prog w = .ok (.float .f64 9218868437227405312) w := run_float_arith w .quo 40 .f64 _ _ _ (by kernel_rfl)
theorem q_minf (w : World) : (binOp .quo 40 (.float .f64 13830554455654793216) (.float .f64 0)).run Try.prog w = .ok (.float .f64 18442240474082181120) w := run_float_arith w .quo 40 .f64 _ _ _ (by kernel_rfl)
theorem q_nan (w : World) : (binOp .quo 40 (.float .f64 0) (.float .f64 0)).run Try.prog w = .ok (.float .f64 (nanW (w.tape w.drawn (.nanBits .f64 0 0)))) w.drew := by kernel_rfl
end Go.Proofs.Ytnmbkhofikbcjaa
