/- Contracts of the document's timer, and the law's comparison. Conditions: as at each lemma. -/
import Derived.Test.YtmblplhehbdocaaTimerAwake
import Derived.Test.YtmblplhehbdocaaPick
namespace Go.Proofs.Ytmblplhehbdocaa
open Go.RowKit

theorem refRead_spec (s : TS) (r : Int) (w : World) : Calls Try.prog 74 #[.agg s.vals, .int .i64 r] w fun e w' => e = .returned (.int .u32 (s.read r)) ∧ Upd Non w w' := by
  unfold TS.read TS.vals
  rcases five r with rfl | rfl | rfl | rfl | ⟨-, -, -, -, h0, h1, h2, h3⟩
  case inr.inr.inr.inr =>
    rw [if_neg h0, if_neg h1, if_neg h2, if_neg h3]
    go_enter Try.func74, Try.ntmps74
    go_wp2
    go_ret
    exact ⟨rfl, by ((with_reducible repeat' first | exact Upd.refl _ _ | apply Upd.drew | apply Upd.drewN | apply Upd.alloc | refine Upd.setCell ?_ ?_) <;> first | (intro _ _ h; exact h) | (intro _ _ h; exact h.elim) | (intro i h1 h2; exfalso; (try simp only at h2); omega) | (left; rfl) | (right; dsimp only; omega) | (right; omega))⟩
  all_goals
    go_enter Try.func74, Try.ntmps74
    go_wp2
    go_ret
    exact ⟨rfl, by ((with_reducible repeat' first | exact Upd.refl _ _ | apply Upd.drew | apply Upd.drewN | apply Upd.alloc | refine Upd.setCell ?_ ?_) <;> first | (intro _ _ h; exact h) | (intro _ _ h; exact h.elim) | (intro i h1 h2; exfalso; (try simp only at h2); omega) | (left; rfl) | (right; dsimp only; omega) | (right; omega))⟩
theorem refLine_spec (s : TS) (hs : s.ok) (w : World) : Calls Try.prog 75 #[.agg s.vals] w fun e w' => e = .returned (.bool s.line) ∧ Upd Non w w' := by
  obtain ⟨c, l, k, h⟩ := s
  have hk := hs.k
  clear hs
  dsimp only at hk
  unfold TS.line TS.vals
  rcases lt8 hk with rfl | rfl | rfl | rfl | rfl | rfl | rfl | rfl
  all_goals
    clear hk
    go_enter Try.func75, Try.ntmps75
    go_wp2
    go_ret
    exact ⟨rfl, by ((with_reducible repeat' first | exact Upd.refl _ _ | apply Upd.drew | apply Upd.drewN | apply Upd.alloc | refine Upd.setCell ?_ ?_) <;> first | (intro _ _ h; exact h) | (intro _ _ h; exact h.elim) | (intro i h1 h2; exfalso; (try simp only at h2); omega) | (left; rfl) | (right; dsimp only; omega) | (right; omega))⟩
theorem refWrite_spec (s : TS) (r x : Int) (hx : 0 ≤ x ∧ x ≤ 4294967295) (w : World) : Calls Try.prog 37 #[.agg s.vals, .int .i64 r, .int .u32 x] w fun e w' => e = .returned (.agg (s.write r x).vals) ∧ Upd Non w w' := by
  unfold TS.write
  have hm : x.tmod 8 = x % 8 := Int.tmod_eq_emod_of_nonneg hx.1
  have hm2 : (x % 8) % 4294967296 = x % 8 := by omega
  rcases five r with rfl | rfl | rfl | rfl | ⟨-, -, -, -, h0, h1, h2, h3⟩
  case inr.inr.inr.inr =>
    rw [if_neg h0, if_neg h1, if_neg h2, if_neg h3]
    unfold TS.vals
    go_enter Try.func37, Try.ntmps37
    go_wp2
    refine bodyPost_ret (v := .agg #[.int .u32 s.c, .int .u32 s.l, .int .u32 s.k, .int .u32 s.h]) (by simp only [results, Try.results37]; go_simp) rfl ⟨rfl, by ((with_reducible repeat' first | exact Upd.refl _ _ | apply Upd.drew | apply Upd.drewN | apply Upd.alloc | refine Upd.setCell ?_ ?_) <;> first | (intro _ _ h; exact h) | (intro _ _ h; exact h.elim) | (intro i h1 h2; exfalso; (try simp only at h2); omega) | (left; rfl) | (right; dsimp only; omega) | (right; omega))⟩
  all_goals
    unfold TS.vals
    go_enter Try.func37, Try.ntmps37
    go_wp2
  · refine bodyPost_ret (v := .agg #[.int .u32 x, .int .u32 s.l, .int .u32 s.k, .int .u32 s.h]) (by simp only [results, Try.results37]; go_simp) rfl ⟨rfl, by ((with_reducible repeat' first | exact Upd.refl _ _ | apply Upd.drew | apply Upd.drewN | apply Upd.alloc | refine Upd.setCell ?_ ?_) <;> first | (intro _ _ h; exact h) | (intro _ _ h; exact h.elim) | (intro i h1 h2; exfalso; (try simp only at h2); omega) | (left; rfl) | (right; dsimp only; omega) | (right; omega))⟩
  · refine bodyPost_ret (v := .agg #[.int .u32 s.c, .int .u32 x, .int .u32 s.k, .int .u32 s.h]) (by simp only [results, Try.results37]; go_simp) rfl ⟨rfl, by ((with_reducible repeat' first | exact Upd.refl _ _ | apply Upd.drew | apply Upd.drewN | apply Upd.alloc | refine Upd.setCell ?_ ?_) <;> first | (intro _ _ h; exact h) | (intro _ _ h; exact h.elim) | (intro i h1 h2; exfalso; (try simp only at h2); omega) | (left; rfl) | (right; dsimp only; omega) | (right; omega))⟩
  · refine bodyPost_ret (v := .agg #[.int .u32 s.c, .int .u32 s.l, .int .u32 (x % 8), .int .u32 s.h]) (by simp only [results, Try.results37]; go_simp) rfl ⟨rfl, by ((with_reducible repeat' first | exact Upd.refl _ _ | apply Upd.drew | apply Upd.drewN | apply Upd.alloc | refine Upd.setCell ?_ ?_) <;> first | (intro _ _ h; exact h) | (intro _ _ h; exact h.elim) | (intro i h1 h2; exfalso; (try simp only at h2); omega) | (left; rfl) | (right; dsimp only; omega) | (right; omega))⟩
  · refine bodyPost_ret (v := .agg #[.int .u32 s.c, .int .u32 s.l, .int .u32 s.k, .int .u32 0]) (by simp only [results, Try.results37]; go_simp) rfl ⟨rfl, by ((with_reducible repeat' first | exact Upd.refl _ _ | apply Upd.drew | apply Upd.drewN | apply Upd.alloc | refine Upd.setCell ?_ ?_) <;> first | (intro _ _ h; exact h) | (intro _ _ h; exact h.elim) | (intro i h1 h2; exfalso; (try simp only at h2); omega) | (left; rfl) | (right; dsimp only; omega) | (right; omega))⟩

theorem tick_even {c l k g : Int} (hk : k % 2 = 0) : TS.tick ⟨c, l, k, g⟩ = ⟨c, l, k, g⟩ := by unfold TS.tick; rw [if_pos hk]
theorem tick_on {c l k g c' : Int} (hk : ¬ k % 2 = 0) (hc : (c + 1) % 4294967296 = c') (h : ¬ c' = l) : TS.tick ⟨c, l, k, g⟩ = ⟨c', l, k, g⟩ := by unfold TS.tick; rw [if_neg hk, hc, if_pos h]
theorem tick_again {c l k g c' g' : Int} (hk : ¬ k % 2 = 0) (hc : (c + 1) % 4294967296 = c') (h : c' = l) (h4 : k / 4 = 1) (hg : (if g < 4294967295 then g + 1 else g) = g') : TS.tick ⟨c, l, k, g⟩ = ⟨0, l, k, g'⟩ := by
  unfold TS.tick; rw [if_neg hk, hc, if_neg (fun q => q h), if_pos h4, hg]
theorem tick_once {c l k g c' g' : Int} (hk : ¬ k % 2 = 0) (hc : (c + 1) % 4294967296 = c') (h : c' = l) (h4 : ¬ k / 4 = 1) (hg : (if g < 4294967295 then g + 1 else g) = g') : TS.tick ⟨c, l, k, g⟩ = ⟨c', l, k - 1, g'⟩ := by
  unfold TS.tick; rw [if_neg hk, hc, if_neg (fun q => q h), if_neg h4, hg]

set_option maxHeartbeats 4000000 in
theorem refTick_spec (s : TS) (hs : s.ok) (w : World) : Calls Try.prog 38 #[.agg s.vals] w fun e w' => e = .returned (.agg s.tick.vals) ∧ Upd Non w w' := by
  obtain ⟨c, l, k, g⟩ := s
  have hk := hs.k
  have hh := hs.h
  clear hs
  dsimp only at hk hh
  obtain ⟨c', hc'⟩ : ∃ x, x = (c + 1) % 4294967296 := ⟨_, rfl⟩
  have hcs := hc'.symm
  clear hc'
  rcases lt8 hk with rfl | rfl | rfl | rfl | rfl | rfl | rfl | rfl
  · rw [tick_even (by decide)]
    clear hk hh hcs
    unfold TS.vals
    go_enter Try.func38, Try.ntmps38
    go_wp2
    exact bodyPost_ret (v := .agg #[.int .u32 c, .int .u32 l, .int .u32 0, .int .u32 g]) (by simp only [results, Try.results38]; go_simp) rfl ⟨rfl, by ((with_reducible repeat' first | exact Upd.refl _ _ | apply Upd.drew | apply Upd.drewN | apply Upd.alloc | refine Upd.setCell ?_ ?_) <;> first | (intro _ _ h; exact h) | (intro _ _ h; exact h.elim) | (intro i h1 h2; exfalso; (try simp only at h2); omega) | (left; rfl) | (right; dsimp only; omega) | (right; omega))⟩
  · clear hk
    by_cases h1 : c' = l
    · have hne : (c' != l) = false := by rw [h1]; simp
      by_cases hh1 : g < 4294967295
      · have hg : (if g < 4294967295 then g + 1 else g) = g + 1 := if_pos hh1
        have hw : (g + 1) % 4294967296 = g + 1 := by omega
        rw [tick_once (by decide) hcs h1 (by decide) hg]
        clear hg h1
        unfold TS.vals
        go_enter Try.func38, Try.ntmps38
        go_wp2
        exact bodyPost_ret (v := .agg #[.int .u32 c', .int .u32 l, .int .u32 0, .int .u32 (g + 1)]) (by simp only [results, Try.results38]; go_simp) rfl ⟨rfl, by ((with_reducible repeat' first | exact Upd.refl _ _ | apply Upd.drew | apply Upd.drewN | apply Upd.alloc | refine Upd.setCell ?_ ?_) <;> first | (intro _ _ h; exact h) | (intro _ _ h; exact h.elim) | (intro i h1 h2; exfalso; (try simp only at h2); omega) | (left; rfl) | (right; dsimp only; omega) | (right; omega))⟩
      · have hg : (if g < 4294967295 then g + 1 else g) = g := if_neg hh1
        rw [tick_once (by decide) hcs h1 (by decide) hg]
        clear hg h1
        unfold TS.vals
        go_enter Try.func38, Try.ntmps38
        go_wp2
        exact bodyPost_ret (v := .agg #[.int .u32 c', .int .u32 l, .int .u32 0, .int .u32 g]) (by simp only [results, Try.results38]; go_simp) rfl ⟨rfl, by ((with_reducible repeat' first | exact Upd.refl _ _ | apply Upd.drew | apply Upd.drewN | apply Upd.alloc | refine Upd.setCell ?_ ?_) <;> first | (intro _ _ h; exact h) | (intro _ _ h; exact h.elim) | (intro i h1 h2; exfalso; (try simp only at h2); omega) | (left; rfl) | (right; dsimp only; omega) | (right; omega))⟩
    · have hne : (c' != l) = true := by simpa using h1
      rw [tick_on (by decide) hcs h1]
      unfold TS.vals
      go_enter Try.func38, Try.ntmps38
      go_wp2
      exact bodyPost_ret (v := .agg #[.int .u32 c', .int .u32 l, .int .u32 1, .int .u32 g]) (by simp only [results, Try.results38]; go_simp) rfl ⟨rfl, by ((with_reducible repeat' first | exact Upd.refl _ _ | apply Upd.drew | apply Upd.drewN | apply Upd.alloc | refine Upd.setCell ?_ ?_) <;> first | (intro _ _ h; exact h) | (intro _ _ h; exact h.elim) | (intro i h1 h2; exfalso; (try simp only at h2); omega) | (left; rfl) | (right; dsimp only; omega) | (right; omega))⟩
  · rw [tick_even (by decide)]
    clear hk hh hcs
    unfold TS.vals
    go_enter Try.func38, Try.ntmps38
    go_wp2
    exact bodyPost_ret (v := .agg #[.int .u32 c, .int .u32 l, .int .u32 2, .int .u32 g]) (by simp only [results, Try.results38]; go_simp) rfl ⟨rfl, by ((with_reducible repeat' first | exact Upd.refl _ _ | apply Upd.drew | apply Upd.drewN | apply Upd.alloc | refine Upd.setCell ?_ ?_) <;> first | (intro _ _ h; exact h) | (intro _ _ h; exact h.elim) | (intro i h1 h2; exfalso; (try simp only at h2); omega) | (left; rfl) | (right; dsimp only; omega) | (right; omega))⟩
  · clear hk
    by_cases h1 : c' = l
    · have hne : (c' != l) = false := by rw [h1]; simp
      by_cases hh1 : g < 4294967295
      · have hg : (if g < 4294967295 then g + 1 else g) = g + 1 := if_pos hh1
        have hw : (g + 1) % 4294967296 = g + 1 := by omega
        rw [tick_once (by decide) hcs h1 (by decide) hg]
        clear hg h1
        unfold TS.vals
        go_enter Try.func38, Try.ntmps38
        go_wp2
        exact bodyPost_ret (v := .agg #[.int .u32 c', .int .u32 l, .int .u32 2, .int .u32 (g + 1)]) (by simp only [results, Try.results38]; go_simp) rfl ⟨rfl, by ((with_reducible repeat' first | exact Upd.refl _ _ | apply Upd.drew | apply Upd.drewN | apply Upd.alloc | refine Upd.setCell ?_ ?_) <;> first | (intro _ _ h; exact h) | (intro _ _ h; exact h.elim) | (intro i h1 h2; exfalso; (try simp only at h2); omega) | (left; rfl) | (right; dsimp only; omega) | (right; omega))⟩
      · have hg : (if g < 4294967295 then g + 1 else g) = g := if_neg hh1
        rw [tick_once (by decide) hcs h1 (by decide) hg]
        clear hg h1
        unfold TS.vals
        go_enter Try.func38, Try.ntmps38
        go_wp2
        exact bodyPost_ret (v := .agg #[.int .u32 c', .int .u32 l, .int .u32 2, .int .u32 g]) (by simp only [results, Try.results38]; go_simp) rfl ⟨rfl, by ((with_reducible repeat' first | exact Upd.refl _ _ | apply Upd.drew | apply Upd.drewN | apply Upd.alloc | refine Upd.setCell ?_ ?_) <;> first | (intro _ _ h; exact h) | (intro _ _ h; exact h.elim) | (intro i h1 h2; exfalso; (try simp only at h2); omega) | (left; rfl) | (right; dsimp only; omega) | (right; omega))⟩
    · have hne : (c' != l) = true := by simpa using h1
      rw [tick_on (by decide) hcs h1]
      unfold TS.vals
      go_enter Try.func38, Try.ntmps38
      go_wp2
      exact bodyPost_ret (v := .agg #[.int .u32 c', .int .u32 l, .int .u32 3, .int .u32 g]) (by simp only [results, Try.results38]; go_simp) rfl ⟨rfl, by ((with_reducible repeat' first | exact Upd.refl _ _ | apply Upd.drew | apply Upd.drewN | apply Upd.alloc | refine Upd.setCell ?_ ?_) <;> first | (intro _ _ h; exact h) | (intro _ _ h; exact h.elim) | (intro i h1 h2; exfalso; (try simp only at h2); omega) | (left; rfl) | (right; dsimp only; omega) | (right; omega))⟩
  · rw [tick_even (by decide)]
    clear hk hh hcs
    unfold TS.vals
    go_enter Try.func38, Try.ntmps38
    go_wp2
    exact bodyPost_ret (v := .agg #[.int .u32 c, .int .u32 l, .int .u32 4, .int .u32 g]) (by simp only [results, Try.results38]; go_simp) rfl ⟨rfl, by ((with_reducible repeat' first | exact Upd.refl _ _ | apply Upd.drew | apply Upd.drewN | apply Upd.alloc | refine Upd.setCell ?_ ?_) <;> first | (intro _ _ h; exact h) | (intro _ _ h; exact h.elim) | (intro i h1 h2; exfalso; (try simp only at h2); omega) | (left; rfl) | (right; dsimp only; omega) | (right; omega))⟩
  · clear hk
    by_cases h1 : c' = l
    · have hne : (c' != l) = false := by rw [h1]; simp
      by_cases hh1 : g < 4294967295
      · have hg : (if g < 4294967295 then g + 1 else g) = g + 1 := if_pos hh1
        have hw : (g + 1) % 4294967296 = g + 1 := by omega
        rw [tick_again (by decide) hcs h1 (by decide) hg]
        clear hg h1
        unfold TS.vals
        go_enter Try.func38, Try.ntmps38
        go_wp2
        exact bodyPost_ret (v := .agg #[.int .u32 0, .int .u32 l, .int .u32 5, .int .u32 (g + 1)]) (by simp only [results, Try.results38]; go_simp) rfl ⟨rfl, by ((with_reducible repeat' first | exact Upd.refl _ _ | apply Upd.drew | apply Upd.drewN | apply Upd.alloc | refine Upd.setCell ?_ ?_) <;> first | (intro _ _ h; exact h) | (intro _ _ h; exact h.elim) | (intro i h1 h2; exfalso; (try simp only at h2); omega) | (left; rfl) | (right; dsimp only; omega) | (right; omega))⟩
      · have hg : (if g < 4294967295 then g + 1 else g) = g := if_neg hh1
        rw [tick_again (by decide) hcs h1 (by decide) hg]
        clear hg h1
        unfold TS.vals
        go_enter Try.func38, Try.ntmps38
        go_wp2
        exact bodyPost_ret (v := .agg #[.int .u32 0, .int .u32 l, .int .u32 5, .int .u32 g]) (by simp only [results, Try.results38]; go_simp) rfl ⟨rfl, by ((with_reducible repeat' first | exact Upd.refl _ _ | apply Upd.drew | apply Upd.drewN | apply Upd.alloc | refine Upd.setCell ?_ ?_) <;> first | (intro _ _ h; exact h) | (intro _ _ h; exact h.elim) | (intro i h1 h2; exfalso; (try simp only at h2); omega) | (left; rfl) | (right; dsimp only; omega) | (right; omega))⟩
    · have hne : (c' != l) = true := by simpa using h1
      rw [tick_on (by decide) hcs h1]
      unfold TS.vals
      go_enter Try.func38, Try.ntmps38
      go_wp2
      exact bodyPost_ret (v := .agg #[.int .u32 c', .int .u32 l, .int .u32 5, .int .u32 g]) (by simp only [results, Try.results38]; go_simp) rfl ⟨rfl, by ((with_reducible repeat' first | exact Upd.refl _ _ | apply Upd.drew | apply Upd.drewN | apply Upd.alloc | refine Upd.setCell ?_ ?_) <;> first | (intro _ _ h; exact h) | (intro _ _ h; exact h.elim) | (intro i h1 h2; exfalso; (try simp only at h2); omega) | (left; rfl) | (right; dsimp only; omega) | (right; omega))⟩
  · rw [tick_even (by decide)]
    clear hk hh hcs
    unfold TS.vals
    go_enter Try.func38, Try.ntmps38
    go_wp2
    exact bodyPost_ret (v := .agg #[.int .u32 c, .int .u32 l, .int .u32 6, .int .u32 g]) (by simp only [results, Try.results38]; go_simp) rfl ⟨rfl, by ((with_reducible repeat' first | exact Upd.refl _ _ | apply Upd.drew | apply Upd.drewN | apply Upd.alloc | refine Upd.setCell ?_ ?_) <;> first | (intro _ _ h; exact h) | (intro _ _ h; exact h.elim) | (intro i h1 h2; exfalso; (try simp only at h2); omega) | (left; rfl) | (right; dsimp only; omega) | (right; omega))⟩
  · clear hk
    by_cases h1 : c' = l
    · have hne : (c' != l) = false := by rw [h1]; simp
      by_cases hh1 : g < 4294967295
      · have hg : (if g < 4294967295 then g + 1 else g) = g + 1 := if_pos hh1
        have hw : (g + 1) % 4294967296 = g + 1 := by omega
        rw [tick_again (by decide) hcs h1 (by decide) hg]
        clear hg h1
        unfold TS.vals
        go_enter Try.func38, Try.ntmps38
        go_wp2
        exact bodyPost_ret (v := .agg #[.int .u32 0, .int .u32 l, .int .u32 7, .int .u32 (g + 1)]) (by simp only [results, Try.results38]; go_simp) rfl ⟨rfl, by ((with_reducible repeat' first | exact Upd.refl _ _ | apply Upd.drew | apply Upd.drewN | apply Upd.alloc | refine Upd.setCell ?_ ?_) <;> first | (intro _ _ h; exact h) | (intro _ _ h; exact h.elim) | (intro i h1 h2; exfalso; (try simp only at h2); omega) | (left; rfl) | (right; dsimp only; omega) | (right; omega))⟩
      · have hg : (if g < 4294967295 then g + 1 else g) = g := if_neg hh1
        rw [tick_again (by decide) hcs h1 (by decide) hg]
        clear hg h1
        unfold TS.vals
        go_enter Try.func38, Try.ntmps38
        go_wp2
        exact bodyPost_ret (v := .agg #[.int .u32 0, .int .u32 l, .int .u32 7, .int .u32 g]) (by simp only [results, Try.results38]; go_simp) rfl ⟨rfl, by ((with_reducible repeat' first | exact Upd.refl _ _ | apply Upd.drew | apply Upd.drewN | apply Upd.alloc | refine Upd.setCell ?_ ?_) <;> first | (intro _ _ h; exact h) | (intro _ _ h; exact h.elim) | (intro i h1 h2; exfalso; (try simp only at h2); omega) | (left; rfl) | (right; dsimp only; omega) | (right; omega))⟩
    · have hne : (c' != l) = true := by simpa using h1
      rw [tick_on (by decide) hcs h1]
      unfold TS.vals
      go_enter Try.func38, Try.ntmps38
      go_wp2
      exact bodyPost_ret (v := .agg #[.int .u32 c', .int .u32 l, .int .u32 7, .int .u32 g]) (by simp only [results, Try.results38]; go_simp) rfl ⟨rfl, by ((with_reducible repeat' first | exact Upd.refl _ _ | apply Upd.drew | apply Upd.drewN | apply Upd.alloc | refine Upd.setCell ?_ ?_) <;> first | (intro _ _ h; exact h) | (intro _ _ h; exact h.elim) | (intro i h1 h2; exfalso; (try simp only at h2); omega) | (left; rfl) | (right; dsimp only; omega) | (right; omega))⟩
end Go.Proofs.Ytmblplhehbdocaa
