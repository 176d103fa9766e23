/- A lent row of devices written over; a board's copy. Conditions: the row is lent; the board is known. -/
import Derived.Test.YtkhhmkcpbefadaaIrqKeptD
namespace Go.Proofs.Ytkhhmkcpbefadaa
open Go.RowKit
set_option maxRecDepth 100000 in
set_option maxHeartbeats 8000000 in
theorem overD_is (n g cap : Nat) (D : Nat → Dev) (hn : n ≤ 900) (w0 w : World) (hL : LentD w0 w D n g cap) :
    Calls Try.prog 25 #[.slice (some ⟨g, 0, none⟩) n cap] w fun e w' => e = .returned (.tuple #[]) ∧ Upd (fun i => i = g) w w' := by
  obtain ⟨hc1, hc2, hc3⟩ := own_cap hL.own
  obtain ⟨cur, hcur, hsz⟩ : ∃ cur, Blk w g cur 31 ∧ (n + 12) * 5 ≤ cur.size := by
    rcases hL.own.2 with ⟨h, _⟩ | ⟨g', cap', cur, h, hg, hh, h3, h4, h5, h6⟩
    · cases h
    · cases h; exact ⟨cur, hh, by rw [h5]; omega⟩
  have HB := Lib.hid hcur
  have k2 : ¬ (cap : Int) < (n : Int) + 12 := by omega
  have k3 : (n : Int) + 12 ≤ cap := by omega
  have k4 : n + 12 ≤ cap := by omega
  have k5 : min (cap : Int) ((n : Int) + 12) = (n : Int) + 12 := by omega
  clear hL hcur
  go_enter Try.func25, Try.ntmps25
  go_wp2_with fail
  rotate_left 1
  · rename_i hcc
    go_loopw [3] (fun i wr => ∃ (t : Nat) (cur : Array Value), t ≤ cap ∧ i = .int .i64 t ∧ Blk wr g cur 31 ∧ (n + 12) * 5 ≤ cur.size ∧ Upd (fun i => i = g) w wr) (fun i _ => cap - (intOf i).toNat)
    case atStart => exact ⟨0, cur, Nat.zero_le _, rfl, HB.out, hsz, Upd.refl _ _⟩
    case round =>
      clear HB hsz
      obtain ⟨t, cu2, ht, rfl, hB, hs2, hU⟩ := hrel
      have HB2 := Lib.hid hB
      have HU := Lib.hid hU
      have hgw : g < wr.heap.size := hB.lt
      clear hB hU
      by_cases hlt : t < cap
      case neg =>
        have k1 : ¬ (t : Int) < (cap : Nat) := by omega
        go_wp2_with fail
        go_end0
        exact ⟨rfl, HU.out⟩
      have k1 : (t : Int) < (cap : Nat) := by omega
      have hget : ∀ k, k < 5 → ∃ u, cu2[t * 5 + k]? = some u := fun k hk => ⟨_, Array.getElem?_eq_getElem (by omega)⟩
      obtain ⟨u0, e0⟩ := hget 0 (by decide)
      obtain ⟨u1, e1⟩ := hget 1 (by decide)
      obtain ⟨u2, e2⟩ := hget 2 (by decide)
      obtain ⟨u3, e3⟩ := hget 3 (by decide)
      obtain ⟨u4, e4⟩ := hget 4 (by decide)
      clear hget
      go_wp2_with fail
      refine (markD2_is t (by omega) _).mono ?_
      rintro e w3 ⟨rfl, hu3⟩
      have HB3 := Lib.hid (Blk.upd hu3 HB2.out id)
      have HU3 := Lib.hid (Upd.call hu3 HU.out fun _ _ h => h.elim)
      have c0 := HB3.out.cell _ e0
      have c1 := HB3.out.cell _ e1
      have c2 := HB3.out.cell _ e2
      have c3 := HB3.out.cell _ e3
      have c4 := HB3.out.cell _ e4
      have f0 := HB3.out.frozen (t * 5)
      have f1 := HB3.out.frozen (t * 5 + 1)
      have f2 := HB3.out.frozen (t * 5 + 2)
      have f3 := HB3.out.frozen (t * 5 + 3)
      have f4 := HB3.out.frozen (t * 5 + 4)
      simp only [Nat.add_zero] at c0
      clear hu3 HB2 HU e0 e1 e2 e3 e4
      go_wp2_with fail
      refine ⟨⟨t + 1, _, by omega, rfl, HB3.out.set.set.set.set.set, ?_, by have h := HU3.out; ((with_reducible repeat' first | exact Upd.refl _ _ | apply Upd.drew | apply Upd.drewN | apply Upd.alloc | refine Upd.setCell ?_ ?_ | refine Upd.call h ?_ ?_) <;> first | (intro _ _ h; exact h) | (intro _ _ h; exact h.elim) | (intro i h1 h2; exfalso; (try simp only at h2); omega) | (left; rfl) | (right; dsimp only; omega) | (right; omega))⟩, by simp only [intOf]; omega⟩
      simp only [Array.size_setIfInBounds]
      exact hs2
  · rw [show ((n : Int) + 12).toNat = n + 12 by omega]
    go_loopw [3] (fun i wr => ∃ (t : Nat) (cur : Array Value), t ≤ n + 12 ∧ i = .int .i64 t ∧ Blk wr g cur 31 ∧ (n + 12) * 5 ≤ cur.size ∧ Upd (fun i => i = g) w wr) (fun i _ => n + 12 - (intOf i).toNat)
    case atStart => exact ⟨0, cur, Nat.zero_le _, rfl, HB.out, hsz, Upd.refl _ _⟩
    case round =>
      clear HB hsz
      obtain ⟨t, cu2, ht, rfl, hB, hs2, hU⟩ := hrel
      have HB2 := Lib.hid hB
      have HU := Lib.hid hU
      have hgw : g < wr.heap.size := hB.lt
      clear hB hU
      by_cases hlt : t < n + 12
      case neg =>
        have k1 : ¬ (t : Int) < (n : Int) + 12 := by omega
        go_wp2_with fail
        go_end0
        exact ⟨rfl, HU.out⟩
      have k1 : (t : Int) < (n : Int) + 12 := by omega
      have hget : ∀ k, k < 5 → ∃ u, cu2[t * 5 + k]? = some u := fun k hk => ⟨_, Array.getElem?_eq_getElem (by omega)⟩
      obtain ⟨u0, e0⟩ := hget 0 (by decide)
      obtain ⟨u1, e1⟩ := hget 1 (by decide)
      obtain ⟨u2, e2⟩ := hget 2 (by decide)
      obtain ⟨u3, e3⟩ := hget 3 (by decide)
      obtain ⟨u4, e4⟩ := hget 4 (by decide)
      clear hget
      go_wp2_with fail
      refine (markD2_is t (by omega) _).mono ?_
      rintro e w3 ⟨rfl, hu3⟩
      have HB3 := Lib.hid (Blk.upd hu3 HB2.out id)
      have HU3 := Lib.hid (Upd.call hu3 HU.out fun _ _ h => h.elim)
      have c0 := HB3.out.cell _ e0
      have c1 := HB3.out.cell _ e1
      have c2 := HB3.out.cell _ e2
      have c3 := HB3.out.cell _ e3
      have c4 := HB3.out.cell _ e4
      have f0 := HB3.out.frozen (t * 5)
      have f1 := HB3.out.frozen (t * 5 + 1)
      have f2 := HB3.out.frozen (t * 5 + 2)
      have f3 := HB3.out.frozen (t * 5 + 3)
      have f4 := HB3.out.frozen (t * 5 + 4)
      simp only [Nat.add_zero] at c0
      clear hu3 HB2 HU e0 e1 e2 e3 e4
      go_wp2_with fail
      refine ⟨⟨t + 1, _, by omega, rfl, HB3.out.set.set.set.set.set, ?_, by have h := HU3.out; ((with_reducible repeat' first | exact Upd.refl _ _ | apply Upd.drew | apply Upd.drewN | apply Upd.alloc | refine Upd.setCell ?_ ?_ | refine Upd.call h ?_ ?_) <;> first | (intro _ _ h; exact h) | (intro _ _ h; exact h.elim) | (intro i h1 h2; exfalso; (try simp only at h2); omega) | (left; rfl) | (right; dsimp only; omega) | (right; omega))⟩, by simp only [intOf]; omega⟩
      simp only [Array.size_setIfInBounds]
      exact hs2
end Go.Proofs.Ytkhhmkcpbefadaa
