/- The laws' Pick. Conditions: as at the lemma. -/
import Derived.Test.YtmblplhehbdocaaBase
import Derived.Test.YtmblplhehbdocaaProg
namespace Go.Proofs.Ytmblplhehbdocaa
open Go.RowKit

/-- Pick: x modulo n, not below 0. -/
theorem pick_spec (x n : Int) (h1 : 1 ≤ n) (h2 : n ≤ 1000000000) (w : World) :
    Calls Try.prog 16 #[.int .i64 x, .int .i64 n] w fun e w' => e = .returned (.int .i64 (x % n)) ∧ w = w' := by
  obtain ⟨r, hr⟩ : ∃ r, r = x.tmod n := ⟨_, rfl⟩
  have hn : ¬ n < 1 := by omega
  have hn0 : ¬ n = 0 := by omega
  have ha : x.tmod n = x % n ∨ (0 < x % n ∧ x.tmod n < 0 ∧ x.tmod n + n = x % n) := by
    rcases Int.lt_or_le x 0 with hx | hx
    · have h5 := Int.tmod_eq_emod (a := x) (b := n)
      have h6 : 0 ≤ x % n := Int.emod_nonneg _ (by omega)
      have h7 : x % n < n := Int.emod_lt_of_pos _ (by omega)
      split at h5
      · left; omega
      · rename_i hd
        have hnn : ((n.natAbs : Int)) = n := by omega
        have h8 : n = 0 ∨ 0 < x % n := Int.emod_pos_of_not_dvd (fun h => hd (.inr h))
        right; refine ⟨?_, ?_, ?_⟩ <;> omega
    · left; exact Int.tmod_eq_emod_of_nonneg hx
  have hb : -n < r ∧ r < n := by
    have h6 : 0 ≤ x % n := Int.emod_nonneg _ (by omega)
    have h7 : x % n < n := Int.emod_lt_of_pos _ (by omega)
    rcases ha with ha | ⟨hp, ha, hb⟩
    · rw [hr, ha]; constructor <;> omega
    · rw [hr]; constructor <;> omega
  have hw : IntKind.i64.wrap r = r := IntWalk.i64_in _ (by omega)
  have hq : x.tmod n = r := hr.symm
  rw [hq] at ha
  by_cases hneg : r < 0
  · have hs : r + n = x % n := by
      rcases ha with ha | ha
      · have h6 : 0 ≤ x % n := Int.emod_nonneg _ (by omega)
        omega
      · exact ha.2.2
    have hw2 : IntKind.i64.wrap (r + n) = r + n := IntWalk.i64_in _ (by omega)
    have HS := Lib.hid hs; clear hs ha hr
    go_enter Try.func16, Try.ntmps16
    go_wp2
    go_ret
    exact ⟨by rw [← HS.out]; rfl, rfl⟩
  · have hs : r = x % n := by
      rcases ha with ha | ha
      · exact ha
      · omega
    have HS := Lib.hid hs; clear hs ha hr
    go_enter Try.func16, Try.ntmps16
    go_wp2
    go_ret
    exact ⟨by rw [← HS.out]; rfl, rfl⟩
end Go.Proofs.Ytmblplhehbdocaa
