/- septumkit.SameInts on two rows of the same numbers. No condition. -/
import Derived.Test.YtmblplhehbdocaaIRow
namespace Go.Proofs.Ytmblplhehbdocaa
open Go.RowKit
theorem sameInts_spec {xs : List Int} (A B : Option Addr) (c d : Nat) (hx : xs.length ≤ 100000) (w : World)
    (hA : 0 < xs.length → ∃ b o, A = some ⟨b, o, none⟩ ∧ b < w.heap.size ∧ ∀ j, j < xs.length → w.cell? ⟨b, o + j, none⟩ = some (.int .i64 (xs.getD j 0)))
    (hB : 0 < xs.length → ∃ b o, B = some ⟨b, o, none⟩ ∧ b < w.heap.size ∧ ∀ j, j < xs.length → w.cell? ⟨b, o + j, none⟩ = some (.int .i64 (xs.getD j 0))) :
    Calls Try.prog 44 #[.slice A xs.length c, .slice B xs.length d] w fun e w' => e = .returned (.bool true) ∧ ∃ k, w' = w.drewN k := by
  have HA := Lib.hid hA
  have HB := Lib.hid hB
  have z1 : ((xs.length : Int) != (xs.length : Int)) = false := by simp
  clear hA hB
  go_enter Try.func44, Try.ntmps44
  go_wp2_with fail
  go_loopw [5] (fun i wr => ∃ t : Nat, t ≤ xs.length ∧ i = .int .i64 t ∧ ∃ k, wr = w.drewN k) (fun i _ => xs.length - (intOf i).toNat)
  case atStart => exact ⟨0, Nat.zero_le _, rfl, 0, rfl⟩
  case round =>
    obtain ⟨t, ht, rfl, k, rfl⟩ := hrel
    by_cases hlt : t < xs.length
    · have k1 : (t : Int) < xs.length := by omega
      obtain ⟨b1, o1, rfl, _, h1⟩ := HA.out (by omega)
      obtain ⟨b2, o2, rfl, _, h2⟩ := HB.out (by omega)
      have e1 := h1 t hlt
      have e2 := h2 t hlt
      obtain ⟨x, hxx⟩ : ∃ x, x = xs.getD t 0 := ⟨_, rfl⟩
      rw [← hxx] at e1 e2
      have z2 : (x != x) = false := by simp
      have k3 : (0 : Int) ≤ t := by omega
      clear h1 h2 hxx HA HB
      go_wp2_with fail
      go_quiet (fail)
      go_wp2_with fail
      go_roundw
      case rel => exact ⟨t + 1, by omega, by go_num, k + nq, rfl⟩
      case measure => simp [intOf]; omega
    · have k1 : ¬ (t : Int) < xs.length := by omega
      go_wp2_with fail
      go_ret
      exact ⟨rfl, k, rfl⟩
end Go.Proofs.Ytmblplhehbdocaa
