/- FifoOrder: the law's walk. Conditions: the argument's cells read as numbers. -/
import Derived.Test.YtmblplhehbdocaaFifoAwake
namespace Go.Proofs.Ytmblplhehbdocaa
open Go.RowKit

theorem len_is {b m g : Nat} {xs : List Int} (v : Int) (hv : (xs.length : Int) = v) (w : World) (h : FI w b xs m g) : Calls Try.prog 24 #[.pointer (some ⟨b, 0, none⟩)] w fun e w' => e = .returned (.int .i64 v) ∧ w = w' := by
  rw [← hv]; exact len_any w h
theorem left_is {b m g : Nat} {xs : List Int} (v : Int) (hv : (m : Int) - xs.length = v) (w : World) (h : FI w b xs m g) : Calls Try.prog 25 #[.pointer (some ⟨b, 0, none⟩)] w fun e w' => e = .returned (.int .i64 v) ∧ ∃ k, w' = w.drewN k := by
  rw [← hv]; exact left_any w h
theorem first_is {b m g : Nat} {xs : List Int} (v : Int) (r : Bool) (h1 : headI xs = v) (h2 : someI xs = r) (w : World) (h : FI w b xs m g) : Calls Try.prog 26 #[.pointer (some ⟨b, 0, none⟩)] w fun e w' => e = .returned (.tuple #[.int .i64 v, .bool r]) ∧ ∃ k, w' = w.drewN k := by
  rw [← h1, ← h2]; exact first_any w h
/-- The first c numbers. -/
def firsts (X : Nat → Int) (c : Nat) : List Int := (List.range c).map X
theorem firsts_length (X : Nat → Int) (c : Nat) : (firsts X c).length = c := by simp [firsts]
theorem firsts_succ (X : Nat → Int) (c : Nat) : firsts X (c + 1) = firsts X c ++ [X c] := by simp [firsts, List.range_succ]
theorem firsts_drop (X : Nat → Int) {c t : Nat} (h : t < c) : (firsts X c).drop t = X t :: (firsts X c).drop (t + 1) := by
  rw [List.drop_eq_getElem_cons (by rw [firsts_length]; exact h)]
  simp [firsts]
theorem wrap_le {R : Nat} (hR : R ≤ maxI) (c : Nat) (hc : c ≤ R) : IntKind.i64.wrap ((R : Int) - (c : Int)) = (R : Int) - (c : Int) := IntWalk.i64_in _ (by unfold maxI at hR; omega)

theorem order_none (v : Int) (A : Option Addr) (n c : Nat) (h : 300 < n ∨ v < 0) (w : World) :
    Calls Try.prog 4 #[.int .i64 v, .slice A n c] w fun e w' => e = .returned (.bool true) ∧ Upd Non w w' := by
  by_cases h1 : (300 : Int) < n
  · clear h
    go_enter Try.func4, Try.ntmps4
    go_wp2_with (go_at_call 21; refine (awake_spec05 _).mono ?_; rintro e w1 ⟨rfl, hU1⟩)
    go_ret
    exact ⟨rfl, by ((with_reducible repeat' first | exact Upd.refl _ _ | apply Upd.drew | apply Upd.drewN | apply Upd.alloc | refine Upd.setCell ?_ ?_ | refine Upd.call hU1 ?_ ?_) <;> first | (intro _ _ h; exact h) | (intro _ _ h; exact h.elim) | (intro i h1 h2; exfalso; (try simp only at h2); omega) | (left; rfl) | (right; dsimp only; omega) | (right; omega))⟩
  have h2 : v < 0 := by omega
  clear h
  go_enter Try.func4, Try.ntmps4
  go_wp2_with (go_at_call 21; refine (awake_spec05 _).mono ?_; rintro e w1 ⟨rfl, hU1⟩)
  go_ret
  exact ⟨rfl, by ((with_reducible repeat' first | exact Upd.refl _ _ | apply Upd.drew | apply Upd.drewN | apply Upd.alloc | refine Upd.setCell ?_ ?_ | refine Upd.call hU1 ?_ ?_) <;> first | (intro _ _ h; exact h) | (intro _ _ h; exact h.elim) | (intro i h1 h2; exfalso; (try simp only at h2); omega) | (left; rfl) | (right; dsimp only; omega) | (right; omega))⟩

set_option maxRecDepth 100000 in
set_option maxHeartbeats 16000000 in
theorem order_some (R : Nat) (hR : R ≤ maxI) (A : Option Addr) (N cc : Nat) (X : Nat → Int) (h2 : N ≤ 300) (w : World)
    (hd : 0 < N → ∃ b o, A = some ⟨b, o, none⟩ ∧ ∀ j, j < N → w.cell? ⟨b, o + j, none⟩ = some (.int .i64 (X j))) :
    Calls Try.prog 4 #[.int .i64 R, .slice A N cc] w fun e w' => e = .returned (.bool true) ∧ Upd Non w w' := by
  have k0 : ¬ (300 : Int) < N := by omega
  have k2 : ¬ (R : Int) < 0 := by omega
  obtain ⟨M, hM⟩ : ∃ M, M = min N R := ⟨_, rfl⟩
  have hmin : (R < N ∧ R ≤ M) ∨ (¬ R < N ∧ N ≤ M) := by omega
  have HMIN := Lib.hid hmin
  clear hmin
  have hMN : M ≤ N ∧ M ≤ R ∧ (M < N → M = R) := by omega
  obtain ⟨hMN, hMR, hMM⟩ := hMN
  have HD := Lib.hid hd
  have HR := Lib.hid hR
  clear hd hR hM
  go_enter Try.func4, Try.ntmps4
  go_wp2_with fail
  refine (awake_spec05 _).mono ?_
  rintro e w1 ⟨rfl, U1⟩
  have HU1 := Lib.hid U1
  clear U1
  go_wp2_with fail
  refine (new_any R HR.out _).mono ?_
  rintro e w2 ⟨rfl, hF, U⟩
  obtain ⟨b, hb⟩ : ∃ x, x = w1.heap.size := ⟨_, rfl⟩
  rw [← hb] at hF ⊢
  have HF2 := Lib.hid hF
  have HU2 := Lib.hid (by have h := HU1.out; ((with_reducible repeat' first | exact Upd.refl _ _ | apply Upd.drew | apply Upd.drewN | apply Upd.alloc | refine Upd.setCell ?_ ?_ | refine Upd.call U ?_ ?_ | refine Upd.call h ?_ ?_) <;> first | (intro _ _ h; exact h) | (intro _ _ h; exact h.elim) | (intro i h1 h2; exfalso; (try simp only at h2); omega) | (left; rfl) | (right; dsimp only; omega) | (right; omega)) : Upd Non w w2)
  have hbw : w.heap.size ≤ b := by have := HU1.out.size; omega
  clear hF U hb HU1
  go_wp2_with fail
  go_loopw [6] (fun i wr => ∃ t g : Nat, t ≤ N ∧ i = .int .i64 t ∧ FI wr b (firsts X (min t R)) R g ∧ w.heap.size ≤ g ∧ Upd Non w wr) (fun i _ => N - (intOf i).toNat)
  case atStart => exact ⟨0, b, by omega, rfl, by rw [Nat.zero_min]; exact HF2.out, hbw, HU2.out⟩
  case round =>
    clear HF2 HU2
    obtain ⟨t, g, ht, rfl, hF, hg, hu⟩ := hrel
    have HF := Lib.hid hF
    have HU := Lib.hid hu
    clear hF hu
    by_cases hlt : t < N
    case neg =>
      have k1 : ¬ (t : Int) < N := by omega
      have HF1 := Lib.hid (show FI wr b ((firsts X M).drop 0) R g by have := HF.out; rwa [show min t R = M by omega] at this)
      clear hlt ht HF
      go_wp2_with fail
      clear k1
      go_loopw [7] (fun i wr => ∃ u : Nat, u ≤ M ∧ i = .int .i64 u ∧ FI wr b ((firsts X M).drop u) R g ∧ Upd Non w wr) (fun i _ => M - (intOf i).toNat)
      case atStart => exact ⟨0, by omega, rfl, HF1.out, HU.out⟩
      case round =>
        clear HF1 HU
        obtain ⟨u, hu, rfl, hF, hU⟩ := hrel
        have HF := Lib.hid hF
        have HU := Lib.hid hU
        clear hF hU
        by_cases hlt : u < M
        case neg =>
          have hRN : ((R : Int) < N ∧ ¬ (u : Int) < R) ∨ (¬ (R : Int) < N ∧ ¬ (u : Int) < N) := by
            rcases HMIN.out with ⟨q1, q2⟩ | ⟨q1, q2⟩
            · exact .inl ⟨by omega, by omega⟩
            · exact .inr ⟨by omega, by omega⟩
          have HX := Lib.hid (show (firsts X M).drop u = [] from List.drop_eq_nil_of_le (by rw [firsts_length]; omega))
          rcases hRN with ⟨q1, q2⟩ | ⟨q1, q2⟩
          all_goals
            go_wp2_with fail
            refine (take_is 0 false [] (by rw [HX.out]; rfl) (by rw [HX.out]; rfl) (by rw [HX.out]; rfl) _ HF.out).mono ?_
            rintro e w3 ⟨rfl, hF, U⟩
            have HF3 := Lib.hid hF
            have HU3 := Lib.hid (by have h := HU.out; ((with_reducible repeat' first | exact Upd.refl _ _ | apply Upd.drew | apply Upd.drewN | apply Upd.alloc | refine Upd.setCell ?_ ?_ | refine Upd.call U ?_ ?_ | refine Upd.call h ?_ ?_) <;> first | (intro _ _ h; exact h) | (intro _ _ h; exact h.elim) | (intro i h1 h2; exfalso; (try simp only at h2); omega) | (left; rfl) | (right; dsimp only; omega) | (right; omega)) : Upd Non w w3)
            clear hF U HF HU
            go_wp2_with fail
            refine (len_is 0 rfl _ HF3.out).mono ?_
            rintro e w4 ⟨rfl, rfl⟩
            go_wp2_with fail
            go_ret
            exact ⟨rfl, HU3.out⟩
        have k1 : (u : Int) < M := by omega
        have HX := Lib.hid (firsts_drop X hlt)
        obtain ⟨ba, o, rfl, hcells⟩ := HD.out (by omega)
        have ce := hcells u (by omega)
        have hba : ba < w.heap.size := World.block_lt_of_cell? _ _ ce
        have CE := Lib.hid ce
        have k5 : (u : Int) < N := by omega
        obtain ⟨D, hD⟩ : ∃ D : Int, (R : Int) - ((M : Int) - ((u : Int) + 1)) = D := ⟨_, rfl⟩
        have g1 : IntKind.i64.wrap ((R : Int) - ((M : Int) - ((u : Int) + 1))) = D := by
          have h1 := HR.out
          unfold maxI at h1
          rw [← hD]; exact IntWalk.i64_in _ (by omega)
        have HDD := Lib.hid hD
        clear hcells ce hD
        have k6 : (u : Int) < R := by omega
        have hRN : (R : Int) < N ∨ ¬ (R : Int) < N := by omega
        rcases hRN with q1 | q1
        all_goals
          go_wp2_with fail
          refine (first_is (X u) true (by rw [HX.out]; rfl) (by rw [HX.out]; rfl) _ HF.out).mono ?_
          rintro e w3 ⟨rfl, k, rfl⟩
          go_wp2_with fail
          refine (take_is (X u) true ((firsts X M).drop (u + 1)) (by rw [HX.out]; rfl) (by rw [HX.out]; rfl) (by rw [HX.out]; rfl) _ (FI.non (by ((with_reducible repeat' first | exact Upd.refl _ _ | apply Upd.drew | apply Upd.drewN | apply Upd.alloc | refine Upd.setCell ?_ ?_) <;> first | (intro _ _ h; exact h) | (intro _ _ h; exact h.elim) | (intro i h1 h2; exfalso; (try simp only at h2); omega) | (left; rfl) | (right; dsimp only; omega) | (right; omega))) HF.out)).mono ?_
          rintro e w4 ⟨rfl, hF, U⟩
          have HF4 := Lib.hid hF
          have HU4 := Lib.hid (by have h := HU.out; ((with_reducible repeat' first | exact Upd.refl _ _ | apply Upd.drew | apply Upd.drewN | apply Upd.alloc | refine Upd.setCell ?_ ?_ | refine Upd.call U ?_ ?_ | refine Upd.call h ?_ ?_) <;> first | (intro _ _ h; exact h) | (intro _ _ h; exact h.elim) | (intro i h1 h2; exfalso; (try simp only at h2); omega) | (left; rfl) | (right; dsimp only; omega) | (right; omega)) : Upd Non w w4)
          clear hF U HF HU
          have d0 := HU4.out.cell_eq id CE.out
          go_wp2_with (first
            | (go_at_call 24; refine (len_is ((M : Int) - ((u : Int) + 1)) (by rw [List.length_drop, firsts_length]; omega) _ (FI.non (by ((with_reducible repeat' first | exact Upd.refl _ _ | apply Upd.drew | apply Upd.drewN | apply Upd.alloc | refine Upd.setCell ?_ ?_) <;> first | (intro _ _ h; exact h) | (intro _ _ h; exact h.elim) | (intro i h1 h2; exfalso; (try simp only at h2); omega) | (left; rfl) | (right; dsimp only; omega) | (right; omega))) HF4.out)).mono ?_; rintro e w5 ⟨rfl, rfl⟩)
            | (go_at_call 25; refine (left_is D (by rw [List.length_drop, firsts_length, ← HDD.out]; omega) _ (FI.non (by ((with_reducible repeat' first | exact Upd.refl _ _ | apply Upd.drew | apply Upd.drewN | apply Upd.alloc | refine Upd.setCell ?_ ?_) <;> first | (intro _ _ h; exact h) | (intro _ _ h; exact h.elim) | (intro i h1 h2; exfalso; (try simp only at h2); omega) | (left; rfl) | (right; dsimp only; omega) | (right; omega))) HF4.out)).mono ?_; rintro e w5 ⟨rfl, k5, rfl⟩))
          go_roundw
          case rel => exact ⟨u + 1, by omega, by go_num, FI.non (by ((with_reducible repeat' first | exact Upd.refl _ _ | apply Upd.drew | apply Upd.drewN | apply Upd.alloc | refine Upd.setCell ?_ ?_) <;> first | (intro _ _ h; exact h) | (intro _ _ h; exact h.elim) | (intro i h1 h2; exfalso; (try simp only at h2); omega) | (left; rfl) | (right; dsimp only; omega) | (right; omega))) HF4.out, by have h := HU4.out; ((with_reducible repeat' first | exact Upd.refl _ _ | apply Upd.drew | apply Upd.drewN | apply Upd.alloc | refine Upd.setCell ?_ ?_ | refine Upd.call h ?_ ?_) <;> first | (intro _ _ h; exact h) | (intro _ _ h; exact h.elim) | (intro i h1 h2; exfalso; (try simp only at h2); omega) | (left; rfl) | (right; dsimp only; omega) | (right; omega))⟩
          case measure => simp [intOf]; omega
    have k1 : (t : Int) < N := by omega
    obtain ⟨ba, o, rfl, hcells⟩ := HD.out (by omega)
    have ce := hcells t hlt
    have hba : ba < w.heap.size := World.block_lt_of_cell? _ _ ce
    have d0 := HU.out.cell_eq id ce
    clear hcells ce
    by_cases htR : t < R
    · have HF' := Lib.hid (show FI wr b (firsts X t) R g by have := HF.out; rwa [show min t R = t by omega] at this)
      have k3 : (t : Int) < R := by omega
      have k4 : ¬ (R : Int) < (t : Int) + 1 := by omega
      have g1 := wrap_le HR.out (t + 1) (by omega)
      rw [show ((t + 1 : Nat) : Int) = (t : Int) + 1 by omega] at g1
      go_wp2_with fail
      refine (put_is (X t) true (firsts X (t + 1)) (by rw [firsts_length]; omega) (by rw [firsts_length]; exact decide_eq_true htR) (by rw [firsts_length, if_pos htR, firsts_succ]) _ HF'.out).mono ?_
      rintro e w3 ⟨rfl, ⟨g3, hgg, hF⟩, U⟩
      have hz := HU.out.size
      have hg3 : w.heap.size ≤ g3 := by omega
      have HF3 := Lib.hid hF
      have HU3 := Lib.hid (by have h := HU.out; ((with_reducible repeat' first | exact Upd.refl _ _ | apply Upd.drew | apply Upd.drewN | apply Upd.alloc | refine Upd.setCell ?_ ?_ | refine Upd.call U ?_ ?_ | refine Upd.call h ?_ ?_) <;> first | (intro _ _ h; exact h) | (intro _ _ h; exact h.elim) | (intro i h1 h2; exfalso; (try simp only at h2); omega) | (left; rfl) | (right; dsimp only; omega) | (right; omega)) : Upd Non w w3)
      clear hF U hgg hz HF HF' HU d0
      go_wp2_with (first
        | (go_at_call 24; refine (len_is ((t : Int) + 1) (by rw [firsts_length]; omega) _ (FI.non (by ((with_reducible repeat' first | exact Upd.refl _ _ | apply Upd.drew | apply Upd.drewN | apply Upd.alloc | refine Upd.setCell ?_ ?_) <;> first | (intro _ _ h; exact h) | (intro _ _ h; exact h.elim) | (intro i h1 h2; exfalso; (try simp only at h2); omega) | (left; rfl) | (right; dsimp only; omega) | (right; omega))) HF3.out)).mono ?_; rintro e w4 ⟨rfl, rfl⟩)
        | (go_at_call 25; refine (left_is ((R : Int) - ((t : Int) + 1)) (by rw [firsts_length]; omega) _ (FI.non (by ((with_reducible repeat' first | exact Upd.refl _ _ | apply Upd.drew | apply Upd.drewN | apply Upd.alloc | refine Upd.setCell ?_ ?_) <;> first | (intro _ _ h; exact h) | (intro _ _ h; exact h.elim) | (intro i h1 h2; exfalso; (try simp only at h2); omega) | (left; rfl) | (right; dsimp only; omega) | (right; omega))) HF3.out)).mono ?_; rintro e w4 ⟨rfl, k, rfl⟩))
      go_roundw
      case rel => exact ⟨t + 1, g3, by omega, by go_num, FI.non (by ((with_reducible repeat' first | exact Upd.refl _ _ | apply Upd.drew | apply Upd.drewN | apply Upd.alloc | refine Upd.setCell ?_ ?_) <;> first | (intro _ _ h; exact h) | (intro _ _ h; exact h.elim) | (intro i h1 h2; exfalso; (try simp only at h2); omega) | (left; rfl) | (right; dsimp only; omega) | (right; omega))) (by have := HF3.out; rwa [show min (t + 1) R = t + 1 by omega]), hg3, by have h := HU3.out; ((with_reducible repeat' first | exact Upd.refl _ _ | apply Upd.drew | apply Upd.drewN | apply Upd.alloc | refine Upd.setCell ?_ ?_ | refine Upd.call h ?_ ?_) <;> first | (intro _ _ h; exact h) | (intro _ _ h; exact h.elim) | (intro i h1 h2; exfalso; (try simp only at h2); omega) | (left; rfl) | (right; dsimp only; omega) | (right; omega))⟩
      case measure => simp [intOf]; omega
    · have HF' := Lib.hid (show FI wr b (firsts X R) R g by have := HF.out; rwa [show min t R = R by omega] at this)
      have k3 : ¬ (t : Int) < R := by omega
      have k4 : (R : Int) < (t : Int) + 1 := by omega
      have g1 : IntKind.i64.wrap ((R : Int) - (R : Int)) = 0 := by rw [Int.sub_self]; rfl
      go_wp2_with fail
      refine (put_is (X t) false (firsts X R) (by rw [firsts_length]; omega) (by rw [firsts_length]; exact decide_eq_false (Nat.lt_irrefl R)) (by rw [firsts_length, if_neg (Nat.lt_irrefl R)]) _ HF'.out).mono ?_
      rintro e w3 ⟨rfl, ⟨g3, hgg, hF⟩, U⟩
      have hz := HU.out.size
      have hg3 : w.heap.size ≤ g3 := by omega
      have HF3 := Lib.hid hF
      have HU3 := Lib.hid (by have h := HU.out; ((with_reducible repeat' first | exact Upd.refl _ _ | apply Upd.drew | apply Upd.drewN | apply Upd.alloc | refine Upd.setCell ?_ ?_ | refine Upd.call U ?_ ?_ | refine Upd.call h ?_ ?_) <;> first | (intro _ _ h; exact h) | (intro _ _ h; exact h.elim) | (intro i h1 h2; exfalso; (try simp only at h2); omega) | (left; rfl) | (right; dsimp only; omega) | (right; omega)) : Upd Non w w3)
      clear hF U hgg hz HF HF' HU d0
      go_wp2_with (first
        | (go_at_call 24; refine (len_is (R : Int) (by rw [firsts_length]) _ (FI.non (by ((with_reducible repeat' first | exact Upd.refl _ _ | apply Upd.drew | apply Upd.drewN | apply Upd.alloc | refine Upd.setCell ?_ ?_) <;> first | (intro _ _ h; exact h) | (intro _ _ h; exact h.elim) | (intro i h1 h2; exfalso; (try simp only at h2); omega) | (left; rfl) | (right; dsimp only; omega) | (right; omega))) HF3.out)).mono ?_; rintro e w4 ⟨rfl, rfl⟩)
        | (go_at_call 25; refine (left_is 0 (by rw [firsts_length]; omega) _ (FI.non (by ((with_reducible repeat' first | exact Upd.refl _ _ | apply Upd.drew | apply Upd.drewN | apply Upd.alloc | refine Upd.setCell ?_ ?_) <;> first | (intro _ _ h; exact h) | (intro _ _ h; exact h.elim) | (intro i h1 h2; exfalso; (try simp only at h2); omega) | (left; rfl) | (right; dsimp only; omega) | (right; omega))) HF3.out)).mono ?_; rintro e w4 ⟨rfl, k, rfl⟩))
      go_roundw
      case rel => exact ⟨t + 1, g3, by omega, by go_num, FI.non (by ((with_reducible repeat' first | exact Upd.refl _ _ | apply Upd.drew | apply Upd.drewN | apply Upd.alloc | refine Upd.setCell ?_ ?_) <;> first | (intro _ _ h; exact h) | (intro _ _ h; exact h.elim) | (intro i h1 h2; exfalso; (try simp only at h2); omega) | (left; rfl) | (right; dsimp only; omega) | (right; omega))) (by have := HF3.out; rwa [show min (t + 1) R = R by omega]), hg3, by have h := HU3.out; ((with_reducible repeat' first | exact Upd.refl _ _ | apply Upd.drew | apply Upd.drewN | apply Upd.alloc | refine Upd.setCell ?_ ?_ | refine Upd.call h ?_ ?_) <;> first | (intro _ _ h; exact h) | (intro _ _ h; exact h.elim) | (intro i h1 h2; exfalso; (try simp only at h2); omega) | (left; rfl) | (right; dsimp only; omega) | (right; omega))⟩
      case measure => simp [intOf]; omega

theorem order_law (v : Int) (hv : v ≤ 9223372036854775807) (A : Option Addr) (N cc : Nat) (X : Nat → Int) (w : World)
    (hd : 0 < N → ∃ b o, A = some ⟨b, o, none⟩ ∧ ∀ j, j < N → w.cell? ⟨b, o + j, none⟩ = some (.int .i64 (X j))) :
    Calls Try.prog 4 #[.int .i64 v, .slice A N cc] w fun e w' => e = .returned (.bool true) ∧ Upd Non w w' := by
  by_cases h : 300 < N ∨ v < 0
  · exact order_none v A N cc h w
  · obtain ⟨R, rfl⟩ := Int.eq_ofNat_of_zero_le (show 0 ≤ v by omega)
    exact order_some R (by unfold maxI; omega) A N cc X (by omega) w hd
end Go.Proofs.Ytmblplhehbdocaa
