/- The law PipeApart returns true: its walk. Conditions: the arguments' cells read as bools. -/
import Derived.Test.YtnmbkhofikbcjaaPipeAwake
import Derived.Test.YtnmbkhofikbcjaaPipeInv
namespace Go.Proofs.Ytnmbkhofikbcjaa
open Go.RowKit

/-- Pick: x modulo n, not below 0. -/
theorem pick_spec (x n : Int) (h1 : 1 ≤ n) (h2 : n ≤ 1000000000) (w : World) :
    Calls Try.prog 14 #[.int .i64 x, .int .i64 n] w fun e w' => e = .returned (.int .i64 (x % n)) ∧ w = w' := by
  obtain ⟨r, hr⟩ : ∃ r, r = x.tmod n := ⟨_, rfl⟩
  have hn : ¬ n < 1 := by omega
  have hn0 : ¬ n = 0 := by omega
  have ha : x.tmod n = x % n ∨ (0 < x % n ∧ x.tmod n < 0 ∧ x.tmod n + n = x % n) := by
    rcases Int.lt_or_le x 0 with hx | hx
    · have h5 := Int.tmod_eq_emod (a := x) (b := n)
      have h6 : 0 ≤ x % n := Int.emod_nonneg _ (by omega)
      have h7 : x % n < n := Int.emod_lt_of_pos _ (by omega)
      split at h5
      · left; omega
      · rename_i hd
        have hnn : ((n.natAbs : Int)) = n := by omega
        have h8 : n = 0 ∨ 0 < x % n := Int.emod_pos_of_not_dvd (fun h => hd (.inr h))
        right; refine ⟨?_, ?_, ?_⟩ <;> omega
    · left; exact Int.tmod_eq_emod_of_nonneg hx
  have hb : -n < r ∧ r < n := by
    have h6 : 0 ≤ x % n := Int.emod_nonneg _ (by omega)
    have h7 : x % n < n := Int.emod_lt_of_pos _ (by omega)
    rcases ha with ha | ⟨hp, ha, hb⟩
    · rw [hr, ha]; constructor <;> omega
    · rw [hr]; constructor <;> omega
  have hw : IntKind.i64.wrap r = r := IntWalk.i64_in _ (by omega)
  have hq : x.tmod n = r := hr.symm
  rw [hq] at ha
  by_cases hneg : r < 0
  · have hs : r + n = x % n := by
      rcases ha with ha | ha
      · have h6 : 0 ≤ x % n := Int.emod_nonneg _ (by omega)
        omega
      · exact ha.2.2
    have hw2 : IntKind.i64.wrap (r + n) = r + n := IntWalk.i64_in _ (by omega)
    have HS := Lib.hid hs; clear hs ha hr
    go_enter Try.func14, Try.ntmps14
    go_wp2
    go_ret
    exact ⟨by rw [← HS.out]; rfl, rfl⟩
  · have hs : r = x % n := by
      rcases ha with ha | ha
      · exact ha
      · omega
    have HS := Lib.hid hs; clear hs ha hr
    go_enter Try.func14, Try.ntmps14
    go_wp2
    go_ret
    exact ⟨by rw [← HS.out]; rfl, rfl⟩

theorem due_nil (t : Int) (w : World) : Calls Try.prog 18 #[.int .i64 t, .slice none 0 0] w fun e w' => e = .returned (.agg #[.int .i64 t, .int .u32 0, .int .i64 0]) ∧ Upd Non w w' := by
  go_enter Try.func18, Try.ntmps18
  go_wp2
  refine bodyPost_ret (v := .agg #[.int .i64 t, .int .u32 0, .int .i64 0]) (by simp only [results, Try.results18]; go_simp) rfl ⟨rfl, by ((with_reducible repeat' first | exact Upd.refl _ _ | apply Upd.drew | apply Upd.drewN | apply Upd.alloc | refine Upd.setCell ?_ ?_) <;> first | (intro _ _ h; exact h) | (intro _ _ h; exact h.elim) | (intro i h1 h2; exfalso; (try simp only at h2); omega) | (left; rfl) | (right; dsimp only; omega) | (right; omega))⟩

/-- Tick, what comes out being known. -/
theorem tick_out (s : PS) (hs : s.ok) (c : PC) (hc : s.cells s.next = c) (b : Nat) (w : World) (hb : Blk w b s.enc 96) :
    Calls Try.prog 16 #[.pointer (some ⟨b, 0, none⟩)] w fun e w' =>
      e = .returned (.tuple #[.agg #[.int .i64 c.wo, .int .u32 c.va, .int .i64 c.er], .bool c.is]) ∧ Blk w' b s.tick.enc 96 ∧ Upd (fun i => i = b) w w' := by
  refine (tick_spec s hs b w hb).mono ?_
  rintro e w' ⟨rfl, h1, h2⟩
  rw [hc]
  exact ⟨rfl, h1, h2⟩

/-- The arguments let nothing be asked: true. -/
theorem apart_none (l at_ : Int) (A B : Option Addr) (pn pc qn qc : Nat) (h : l < 1 ∨ 16 < l ∨ 400 < pn ∨ qn < pn ∨ pn = 0) (w : World) :
    Calls Try.prog 3 #[.int .i64 l, .slice A pn pc, .slice B qn qc, .int .i64 at_] w fun e w' => e = .returned (.bool true) ∧ Upd Non w w' := by
  by_cases h1 : l < 1
  · go_enter Try.func3, Try.ntmps3
    go_wp2_with (go_at_call 13; refine (awake18 _).mono ?_; rintro e w1 ⟨rfl, hU1⟩)
    go_ret
    exact ⟨rfl, by ((with_reducible repeat' first | exact Upd.refl _ _ | apply Upd.drew | apply Upd.drewN | apply Upd.alloc | refine Upd.setCell ?_ ?_ | refine Upd.call hU1 ?_ ?_) <;> first | (intro _ _ h; exact h) | (intro _ _ h; exact h.elim) | (intro i h1 h2; exfalso; (try simp only at h2); omega) | (left; rfl) | (right; dsimp only; omega) | (right; omega))⟩
  by_cases h2 : 16 < l
  · go_enter Try.func3, Try.ntmps3
    go_wp2_with (go_at_call 13; refine (awake18 _).mono ?_; rintro e w1 ⟨rfl, hU1⟩)
    go_ret
    exact ⟨rfl, by ((with_reducible repeat' first | exact Upd.refl _ _ | apply Upd.drew | apply Upd.drewN | apply Upd.alloc | refine Upd.setCell ?_ ?_ | refine Upd.call hU1 ?_ ?_) <;> first | (intro _ _ h; exact h) | (intro _ _ h; exact h.elim) | (intro i h1 h2; exfalso; (try simp only at h2); omega) | (left; rfl) | (right; dsimp only; omega) | (right; omega))⟩
  by_cases h3 : (400 : Int) < pn
  · clear h
    go_enter Try.func3, Try.ntmps3
    go_wp2_with (go_at_call 13; refine (awake18 _).mono ?_; rintro e w1 ⟨rfl, hU1⟩)
    go_ret
    exact ⟨rfl, by ((with_reducible repeat' first | exact Upd.refl _ _ | apply Upd.drew | apply Upd.drewN | apply Upd.alloc | refine Upd.setCell ?_ ?_ | refine Upd.call hU1 ?_ ?_) <;> first | (intro _ _ h; exact h) | (intro _ _ h; exact h.elim) | (intro i h1 h2; exfalso; (try simp only at h2); omega) | (left; rfl) | (right; dsimp only; omega) | (right; omega))⟩
  by_cases h4 : (qn : Int) < pn
  · clear h
    go_enter Try.func3, Try.ntmps3
    go_wp2_with (go_at_call 13; refine (awake18 _).mono ?_; rintro e w1 ⟨rfl, hU1⟩)
    go_ret
    exact ⟨rfl, by ((with_reducible repeat' first | exact Upd.refl _ _ | apply Upd.drew | apply Upd.drewN | apply Upd.alloc | refine Upd.setCell ?_ ?_ | refine Upd.call hU1 ?_ ?_) <;> first | (intro _ _ h; exact h) | (intro _ _ h; exact h.elim) | (intro i h1 h2; exfalso; (try simp only at h2); omega) | (left; rfl) | (right; dsimp only; omega) | (right; omega))⟩
  obtain rfl : pn = 0 := by omega
  clear h
  go_enter Try.func3, Try.ntmps3
  go_wp2_with (go_at_call 13; refine (awake18 _).mono ?_; rintro e w1 ⟨rfl, hU1⟩)
  go_ret
  exact ⟨rfl, by ((with_reducible repeat' first | exact Upd.refl _ _ | apply Upd.drew | apply Upd.drewN | apply Upd.alloc | refine Upd.setCell ?_ ?_ | refine Upd.call hU1 ?_ ?_) <;> first | (intro _ _ h; exact h) | (intro _ _ h; exact h.elim) | (intro i h1 h2; exfalso; (try simp only at h2); omega) | (left; rfl) | (right; dsimp only; omega) | (right; omega))⟩
end Go.Proofs.Ytnmbkhofikbcjaa
