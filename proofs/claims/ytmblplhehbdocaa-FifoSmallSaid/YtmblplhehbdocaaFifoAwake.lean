/- The fifo's example: awake returns true. No condition. -/
import Derived.Test.YtmblplhehbdocaaFifoAny
namespace Go.Proofs.Ytmblplhehbdocaa
open Go.RowKit

theorem put_is {b m g : Nat} {xs : List Int} (v : Int) (r : Bool) (ys : List Int) (hn : xs.length ≤ 2000) (hr : decide (xs.length < m) = r) (hy : (if xs.length < m then xs ++ [v] else xs) = ys) (w : World) (h : FI w b xs m g) :
    Calls Try.prog 23 #[.pointer (some ⟨b, 0, none⟩), .int .i64 v] w fun e w' => e = .returned (.bool r) ∧ (∃ g', (g' = g ∨ w.heap.size ≤ g') ∧ FI w' b ys m g') ∧ Upd (fun i => i = b ∨ i = g) w w' := by
  rw [← hr, ← hy]; exact put_any05 v hn w h
theorem take_is {b m g : Nat} {xs : List Int} (v : Int) (r : Bool) (ys : List Int) (h1 : headI xs = v) (h2 : someI xs = r) (h3 : xs.tail = ys) (w : World) (h : FI w b xs m g) :
    Calls Try.prog 27 #[.pointer (some ⟨b, 0, none⟩)] w fun e w' => e = .returned (.tuple #[.int .i64 v, .bool r]) ∧ FI w' b ys m g ∧ Upd (fun i => i = b) w w' := by
  rw [← h1, ← h2, ← h3]; exact take_any05 w h
theorem new_2 (w : World) : Calls Try.prog 22 #[.int .i64 2] w fun e w' => e = .returned (.pointer (some ⟨w.heap.size, 0, none⟩)) ∧ FI w' w.heap.size [] 2 w.heap.size ∧ Upd Non w w' := new_any 2 (by unfold maxI; omega) w

set_option maxRecDepth 100000 in
set_option maxHeartbeats 8000000 in
theorem awake_two (w : World) : Calls Try.prog 21 #[] w fun e w' => e = .returned (.bool true) ∧ Upd Non w w' ∧ w.heap.size + 2 ≤ w'.heap.size := by
  go_enter Try.func21, Try.ntmps21
  go_wp2_with fail
  refine (new_2 _).mono ?_
  rintro e w1 ⟨rfl, hF, U1⟩
  obtain ⟨b, hb⟩ : ∃ x, x = w.heap.size := ⟨_, rfl⟩
  rw [← hb] at hF ⊢
  have HF1 := Lib.hid hF
  have HU1 := Lib.hid U1
  have hbw : w.heap.size ≤ b := by omega
  have hg1 : w.heap.size ≤ b := hbw
  clear hb hF U1
  go_wp2_with fail
  refine (put_is 7 true [7] (by decide) (by decide) (by decide) _ HF1.out).mono ?_
  rintro e w2 ⟨rfl, ⟨g2, hgg, hF⟩, U⟩
  have hz := HU1.out.size
  have hg2 : w.heap.size ≤ g2 := by omega
  have HF2 := Lib.hid hF
  have HU2 := Lib.hid (by have h := HU1.out; ((with_reducible repeat' first | exact Upd.refl _ _ | apply Upd.drew | apply Upd.drewN | apply Upd.alloc | refine Upd.setCell ?_ ?_ | refine Upd.call U ?_ ?_ | refine Upd.call h ?_ ?_) <;> first | (intro _ _ h; exact h) | (intro _ _ h; exact h.elim) | (intro i h1 h2; exfalso; (try simp only at h2); omega) | (left; rfl) | (right; dsimp only; omega) | (right; omega)) : Upd Non w w2)
  have hr2 := FI.ring hF (by decide)
  have hl2 := hF.lt
  have HZ2 := Lib.hid (show w.heap.size + 2 ≤ w2.heap.size by omega)
  clear hr2 hl2
  clear hF U hgg hz HF1 HU1
  go_wp2_with fail
  refine (put_is 8 true [7, 8] (by decide) (by decide) (by decide) _ HF2.out).mono ?_
  rintro e w3 ⟨rfl, ⟨g3, hgg, hF⟩, U⟩
  have hz := HU2.out.size
  have hg3 : w.heap.size ≤ g3 := by omega
  have HF3 := Lib.hid hF
  have HU3 := Lib.hid (by have h := HU2.out; ((with_reducible repeat' first | exact Upd.refl _ _ | apply Upd.drew | apply Upd.drewN | apply Upd.alloc | refine Upd.setCell ?_ ?_ | refine Upd.call U ?_ ?_ | refine Upd.call h ?_ ?_) <;> first | (intro _ _ h; exact h) | (intro _ _ h; exact h.elim) | (intro i h1 h2; exfalso; (try simp only at h2); omega) | (left; rfl) | (right; dsimp only; omega) | (right; omega)) : Upd Non w w3)
  have HZ3 := Lib.hid (show w.heap.size + 2 ≤ w3.heap.size from Nat.le_trans HZ2.out U.size)
  clear HZ2
  clear hF U hgg hz HF2 HU2
  go_wp2_with fail
  refine (put_is 9 false [7, 8] (by decide) (by decide) (by decide) _ HF3.out).mono ?_
  rintro e w4 ⟨rfl, ⟨g4, hgg, hF⟩, U⟩
  have hz := HU3.out.size
  have hg4 : w.heap.size ≤ g4 := by omega
  have HF4 := Lib.hid hF
  have HU4 := Lib.hid (by have h := HU3.out; ((with_reducible repeat' first | exact Upd.refl _ _ | apply Upd.drew | apply Upd.drewN | apply Upd.alloc | refine Upd.setCell ?_ ?_ | refine Upd.call U ?_ ?_ | refine Upd.call h ?_ ?_) <;> first | (intro _ _ h; exact h) | (intro _ _ h; exact h.elim) | (intro i h1 h2; exfalso; (try simp only at h2); omega) | (left; rfl) | (right; dsimp only; omega) | (right; omega)) : Upd Non w w4)
  have HZ4 := Lib.hid (show w.heap.size + 2 ≤ w4.heap.size from Nat.le_trans HZ3.out U.size)
  clear HZ3
  clear hF U hgg hz HF3 HU3
  go_wp2_with fail
  refine (take_is 7 true [8] rfl rfl rfl _ HF4.out).mono ?_
  rintro e w5 ⟨rfl, hF, U⟩
  have HF5 := Lib.hid hF
  have HU5 := Lib.hid (by have h := HU4.out; ((with_reducible repeat' first | exact Upd.refl _ _ | apply Upd.drew | apply Upd.drewN | apply Upd.alloc | refine Upd.setCell ?_ ?_ | refine Upd.call U ?_ ?_ | refine Upd.call h ?_ ?_) <;> first | (intro _ _ h; exact h) | (intro _ _ h; exact h.elim) | (intro i h1 h2; exfalso; (try simp only at h2); omega) | (left; rfl) | (right; dsimp only; omega) | (right; omega)) : Upd Non w w5)
  have HZ5 := Lib.hid (show w.heap.size + 2 ≤ w5.heap.size from Nat.le_trans HZ4.out U.size)
  clear HZ4
  clear hF U HF4 HU4
  go_wp2_with fail
  refine (put_is 9 true [8, 9] (by decide) (by decide) (by decide) _ HF5.out).mono ?_
  rintro e w6 ⟨rfl, ⟨g6, hgg, hF⟩, U⟩
  have hz := HU5.out.size
  have hg6 : w.heap.size ≤ g6 := by omega
  have HF6 := Lib.hid hF
  have HU6 := Lib.hid (by have h := HU5.out; ((with_reducible repeat' first | exact Upd.refl _ _ | apply Upd.drew | apply Upd.drewN | apply Upd.alloc | refine Upd.setCell ?_ ?_ | refine Upd.call U ?_ ?_ | refine Upd.call h ?_ ?_) <;> first | (intro _ _ h; exact h) | (intro _ _ h; exact h.elim) | (intro i h1 h2; exfalso; (try simp only at h2); omega) | (left; rfl) | (right; dsimp only; omega) | (right; omega)) : Upd Non w w6)
  have HZ6 := Lib.hid (show w.heap.size + 2 ≤ w6.heap.size from Nat.le_trans HZ5.out U.size)
  clear HZ5
  clear hF U hgg hz HF5 HU5
  go_wp2_with fail
  refine (take_is 8 true [9] rfl rfl rfl _ HF6.out).mono ?_
  rintro e w7 ⟨rfl, hF, U⟩
  have HF7 := Lib.hid hF
  have HU7 := Lib.hid (by have h := HU6.out; ((with_reducible repeat' first | exact Upd.refl _ _ | apply Upd.drew | apply Upd.drewN | apply Upd.alloc | refine Upd.setCell ?_ ?_ | refine Upd.call U ?_ ?_ | refine Upd.call h ?_ ?_) <;> first | (intro _ _ h; exact h) | (intro _ _ h; exact h.elim) | (intro i h1 h2; exfalso; (try simp only at h2); omega) | (left; rfl) | (right; dsimp only; omega) | (right; omega)) : Upd Non w w7)
  have HZ7 := Lib.hid (show w.heap.size + 2 ≤ w7.heap.size from Nat.le_trans HZ6.out U.size)
  clear HZ6
  clear hF U HF6 HU6
  go_wp2_with fail
  refine (take_is 9 true [] rfl rfl rfl _ HF7.out).mono ?_
  rintro e w8 ⟨rfl, hF, U⟩
  have HF8 := Lib.hid hF
  have HU8 := Lib.hid (by have h := HU7.out; ((with_reducible repeat' first | exact Upd.refl _ _ | apply Upd.drew | apply Upd.drewN | apply Upd.alloc | refine Upd.setCell ?_ ?_ | refine Upd.call U ?_ ?_ | refine Upd.call h ?_ ?_) <;> first | (intro _ _ h; exact h) | (intro _ _ h; exact h.elim) | (intro i h1 h2; exfalso; (try simp only at h2); omega) | (left; rfl) | (right; dsimp only; omega) | (right; omega)) : Upd Non w w8)
  have HZ8 := Lib.hid (show w.heap.size + 2 ≤ w8.heap.size from Nat.le_trans HZ7.out U.size)
  clear HZ7
  clear hF U HF7 HU7
  go_wp2_with fail
  refine (take_is 0 false [] rfl rfl rfl _ HF8.out).mono ?_
  rintro e w9 ⟨rfl, hF, U⟩
  have HF9 := Lib.hid hF
  have HU9 := Lib.hid (by have h := HU8.out; ((with_reducible repeat' first | exact Upd.refl _ _ | apply Upd.drew | apply Upd.drewN | apply Upd.alloc | refine Upd.setCell ?_ ?_ | refine Upd.call U ?_ ?_ | refine Upd.call h ?_ ?_) <;> first | (intro _ _ h; exact h) | (intro _ _ h; exact h.elim) | (intro i h1 h2; exfalso; (try simp only at h2); omega) | (left; rfl) | (right; dsimp only; omega) | (right; omega)) : Upd Non w w9)
  have HZ9 := Lib.hid (show w.heap.size + 2 ≤ w9.heap.size from Nat.le_trans HZ8.out U.size)
  clear HZ8
  clear hF U HF8 HU8
  go_wp2_with fail
  go_ret
  exact ⟨rfl, HU9.out, HZ9.out⟩
theorem awake_spec05 (w : World) : Calls Try.prog 21 #[] w fun e w' => e = .returned (.bool true) ∧ Upd Non w w' := (awake_two w).mono fun _ _ h => ⟨h.1, h.2.1⟩
end Go.Proofs.Ytmblplhehbdocaa
