/- For the law PipeLate: how long the next answer takes and how many are on their way; what is put, with values. Conditions: as at each lemma. -/
import Derived.Test.YtnmbkhofikbcjaaPipeApart
namespace Go.Proofs.Ytnmbkhofikbcjaa
open Go.RowKit

theorem PS.idleFrom_range (s : PS) : ∀ (k n : Nat), 1 ≤ n → s.idleFrom k n = 0 ∨ (n ≤ s.idleFrom k n ∧ s.idleFrom k n < n + k)
  | 0, _, _ => .inl rfl
  | k + 1, n, hn => by
    rw [PS.idleFrom_succ]
    split
    · right; omega
    · rcases PS.idleFrom_range s k (n + 1) (by omega) with h | h
      · exact .inl h
      · right; omega
theorem PS.idleFrom_zero (s : PS) : ∀ (k n : Nat), 1 ≤ n → (s.idleFrom k n = 0 ↔ ∀ j, j < k → (s.cells (s.at_ (n + j))).is = false)
  | 0, _, _ => ⟨fun _ j hj => absurd hj (by omega), fun _ => rfl⟩
  | k + 1, n, hn => by
    rw [PS.idleFrom_succ]
    constructor
    · intro h j hj
      split at h
      · omega
      · rename_i hc
        rcases Nat.eq_zero_or_pos j with rfl | hj0
        · simpa using hc
        · have := (PS.idleFrom_zero s k (n + 1) (by omega)).1 h (j - 1) (by omega)
          rwa [show n + 1 + (j - 1) = n + j by omega] at this
    · intro h
      have h0 := h 0 (by omega)
      rw [Nat.add_zero] at h0
      rw [if_neg (by simp [h0])]
      exact (PS.idleFrom_zero s k (n + 1) (by omega)).2 fun j hj => by
        have := h (j + 1) (by omega)
        rwa [show n + (j + 1) = n + 1 + j by omega] at this
theorem PS.upto_zero (s : PS) : ∀ k, ((s.upto k).length = 0 ↔ ∀ j, j < k → (s.cells (s.at_ (1 + j))).is = false)
  | 0 => ⟨fun _ j hj => absurd hj (by omega), fun _ => by simp [PS.upto]⟩
  | k + 1 => by
    rw [PS.upto_succ, List.length_append]
    have ih := PS.upto_zero s k
    have hstep : (s.step (k + 1)).length = 0 ↔ (s.cells (s.at_ (1 + k))).is = false := by
      rw [Nat.add_comm 1 k]; unfold PS.step; split <;> simp_all
    constructor
    · intro h j hj
      rcases Nat.lt_succ_iff_lt_or_eq.1 hj with h1 | rfl
      · exact ih.1 (by omega) j h1
      · exact hstep.1 (by omega)
    · intro h
      have h1 := ih.2 fun j hj => h j (by omega)
      have h2 := hstep.2 (h k (by omega))
      omega
theorem PS.idle_le (s : PS) : s.idle ≤ s.lat := by
  have := PS.idleFrom_range s s.lat 1 (by omega)
  unfold PS.idle; omega
theorem PS.idle_zero (s : PS) : s.idle = 0 ↔ (s.upto s.lat).length = 0 := by
  unfold PS.idle
  rw [PS.idleFrom_zero s s.lat 1 (by omega), PS.upto_zero]
/-- Either both are nought or both are above. -/
theorem PS.both (s : PS) : (s.idle = 0 ∧ (s.upto s.lat).length = 0) ∨ (0 < s.idle ∧ 0 < (s.upto s.lat).length) := by
  have := s.idle_zero; omega

/-- What is put in a cycle. -/
def whatAt (vn : Nat) (V : Nat → Int) (t : Nat) : PC := if vn = 0 then ⟨true, t, 0, 0⟩ else ⟨true, t, V (t % vn), (t % 3 : Nat)⟩
theorem whatAt_is (vn : Nat) (V : Nat → Int) (t : Nat) : (whatAt vn V t).is = true := by unfold whatAt; split <;> rfl
theorem whatAt_wo (vn : Nat) (V : Nat → Int) (t : Nat) : (whatAt vn V t).wo = t := by unfold whatAt; split <;> rfl

theorem due_spec (t : Nat) (ht : t ≤ 1000) (A : Option Addr) (vn vc : Nat) (V : Nat → Int) (w : World)
    (hv : 0 < vn → ∃ b o, A = some ⟨b, o, none⟩ ∧ ∀ j, j < vn → w.cell? ⟨b, o + j, none⟩ = some (.int .u32 (V j))) (hvn : vn ≤ 9223372036854775807) :
    Calls Try.prog 18 #[.int .i64 t, .slice A vn vc] w fun e w' => e = .returned (.agg #[.int .i64 (whatAt vn V t).wo, .int .u32 (whatAt vn V t).va, .int .i64 (whatAt vn V t).er]) ∧ Upd Non w w' := by
  by_cases h0 : vn = 0
  · subst h0
    clear hv
    go_enter Try.func18, Try.ntmps18
    go_wp2
    refine bodyPost_ret (v := .agg #[.int .i64 t, .int .u32 0, .int .i64 0]) (by simp only [results, Try.results18]; go_simp) rfl ⟨rfl, by ((with_reducible repeat' first | exact Upd.refl _ _ | apply Upd.drew | apply Upd.drewN | apply Upd.alloc | refine Upd.setCell ?_ ?_) <;> first | (intro _ _ h; exact h) | (intro _ _ h; exact h.elim) | (intro i h1 h2; exfalso; (try simp only at h2); omega) | (left; rfl) | (right; dsimp only; omega) | (right; omega))⟩
  · obtain ⟨b, o, rfl, hc⟩ := hv (by omega)
    obtain ⟨k, hk⟩ : ∃ k, k = t % vn := ⟨_, rfl⟩
    have hkn : k < vn := by rw [hk]; exact Nat.mod_lt _ (by omega)
    have hcell := hc k hkn
    have hbl := World.block_lt_of_cell? w _ hcell
    have hbl' : b < w.heap.size := hbl
    clear hc hbl hv
    obtain ⟨r, hr⟩ : ∃ r, r = t % 3 := ⟨_, rfl⟩
    have e1 : (t : Int).tmod vn = k := by rw [Int.tmod_eq_emod_of_nonneg (by omega), hk]; push_cast; rfl
    have e2 : (t : Int).tmod 3 = r := by rw [Int.tmod_eq_emod_of_nonneg (by omega), hr]; push_cast; rfl
    have e1' : (t : Int) % vn = k := by rw [hk]; push_cast; rfl
    have e2' : (t : Int) % 3 = r := by rw [hr]; push_cast; rfl
    have h3 : ¬ (vn : Int) = 0 := by omega
    have h4 : (0 : Int) < vn := by omega
    have HW : Hid (whatAt vn V t = ⟨true, t, V k, r⟩) := by show _ = _; unfold whatAt; rw [if_neg h0, hk, hr]
    have HK := Lib.hid hk; clear hk
    have HR := Lib.hid hr; clear hr
    go_enter Try.func18, Try.ntmps18
    go_wp2
    rw [HW.out]
    refine bodyPost_ret (v := .agg #[.int .i64 t, .int .u32 (V k), .int .i64 r]) (by simp only [results, Try.results18]; go_simp) rfl ⟨rfl, by ((with_reducible repeat' first | exact Upd.refl _ _ | apply Upd.drew | apply Upd.drewN | apply Upd.alloc | refine Upd.setCell ?_ ?_) <;> first | (intro _ _ h; exact h) | (intro _ _ h; exact h.elim) | (intro i h1 h2; exfalso; (try simp only at h2); omega) | (left; rfl) | (right; dsimp only; omega) | (right; omega))⟩
end Go.Proofs.Ytnmbkhofikbcjaa
