/- The timer's example: awake returns true; a timer behind some ticks. No condition. -/
import Derived.Test.YtmblplhehbdocaaTimerReg
namespace Go.Proofs.Ytmblplhehbdocaa
open Go.RowKit

def TS.tickN (s : TS) : Nat → TS
  | 0 => s
  | n + 1 => (s.tickN n).tick
theorem TS.tickN_ok {s : TS} (h : s.ok) : ∀ n, (s.tickN n).ok
  | 0 => h
  | n + 1 => TS.tick_ok (TS.tickN_ok h n)

def s0 : TS := ⟨0, 2, 7, 0⟩
theorem ok0 : TS.ok ⟨0, 0, 0, 0⟩ := ⟨by decide, by decide, by decide, by decide⟩
theorem ok7 : s0.ok := ⟨by decide, by decide, by decide, by decide⟩
theorem ok3 : TS.ok ⟨0, 2, 3, 0⟩ := ⟨by decide, by decide, by decide, by decide⟩

set_option maxRecDepth 100000 in
set_option maxHeartbeats 4000000 in
theorem awake_spec (w : World) : Calls Try.prog 15 #[] w fun e w' => e = .returned (.bool true) ∧ Upd Non w w' := by
  go_enter Try.func15, Try.ntmps15
  go_wp2_with fail
  refine (new_spec _).mono ?_
  rintro e w1 ⟨b, rfl, hb, hB, U⟩
  have HB := Lib.hid hB
  have HU := Lib.hid U
  clear hB U
  go_wp2_with fail
  refine (write_spec b _ 1 2 (by decide) _ HB.out).mono ?_
  rintro e w2 ⟨rfl, hB2, U2⟩
  have HB2 := Lib.hid hB2
  have HU2 := Lib.hid (by have h := HU.out; ((with_reducible repeat' first | exact Upd.refl _ _ | apply Upd.drew | apply Upd.drewN | apply Upd.alloc | refine Upd.setCell ?_ ?_ | refine Upd.call U2 ?_ ?_ | refine Upd.call h ?_ ?_) <;> first | (intro _ _ h; exact h) | (intro _ _ h; exact h.elim) | (intro i h1 h2; exfalso; (try simp only at h2); omega) | (left; rfl) | (right; dsimp only; omega) | (right; omega)) : Upd Non w w2)
  clear hB2 U2
  go_wp2_with fail
  refine (write_spec b _ 2 7 (by decide) _ HB2.out).mono ?_
  rintro e w3 ⟨rfl, hB3, U3⟩
  have HB3 := Lib.hid (show TBlk w3 b (s0.tickN 0) from hB3)
  have HU3 := Lib.hid (by have h := HU2.out; ((with_reducible repeat' first | exact Upd.refl _ _ | apply Upd.drew | apply Upd.drewN | apply Upd.alloc | refine Upd.setCell ?_ ?_ | refine Upd.call U3 ?_ ?_ | refine Upd.call h ?_ ?_) <;> first | (intro _ _ h; exact h) | (intro _ _ h; exact h.elim) | (intro i h1 h2; exfalso; (try simp only at h2); omega) | (left; rfl) | (right; dsimp only; omega) | (right; omega)) : Upd Non w w3)
  clear hB3 U3
  go_wp2_with fail
  go_loopw [2] (fun i wr => ∃ n : Nat, n ≤ 4 ∧ i = .int .i64 n ∧ TBlk wr b (s0.tickN n) ∧ Upd Non w wr) (fun i _ => 4 - (intOf i).toNat)
  case atStart => exact ⟨0, by omega, rfl, HB3.out, HU3.out⟩
  case round =>
    clear HB HU HB2 HU2 HB3 HU3
    obtain ⟨n, hn, rfl, hB, hU⟩ := hrel
    have HB := Lib.hid hB
    have HU := Lib.hid hU
    clear hB hU
    by_cases hlt : n < 4
    · have k1 : (n : Int) < 4 := by omega
      go_wp2_with fail
      refine (tick_spec b _ (TS.tickN_ok ok7 n) _ HB.out).mono ?_
      rintro e w4 ⟨rfl, hB4, U4⟩
      have HB4 := Lib.hid hB4
      have HU4 := Lib.hid (by have h := HU.out; ((with_reducible repeat' first | exact Upd.refl _ _ | apply Upd.drew | apply Upd.drewN | apply Upd.alloc | refine Upd.setCell ?_ ?_ | refine Upd.call U4 ?_ ?_ | refine Upd.call h ?_ ?_) <;> first | (intro _ _ h; exact h) | (intro _ _ h; exact h.elim) | (intro i h1 h2; exfalso; (try simp only at h2); omega) | (left; rfl) | (right; dsimp only; omega) | (right; omega)) : Upd Non w w4)
      clear hB4 U4
      go_wp2_with fail
      go_roundw
      case rel => exact ⟨n + 1, by omega, by go_num, HB4.out, HU4.out⟩
      case measure => simp [intOf]; omega
    · have k1 : ¬ (n : Int) < 4 := by omega
      obtain rfl : n = 4 := by omega
      have HB1 := Lib.hid (show TBlk wr b ⟨0, 2, 7, 2⟩ from HB.out)
      have hbl := HB1.out.blk.lt
      clear HB
      go_wp2_with fail
      refine (of_spec 0 2 3 0 (by decide) _).mono ?_
      rintro e w5 ⟨o, rfl, ho, hO5, U5⟩
      have hbo : b ≠ o := by omega
      have how : w.heap.size ≤ o := Nat.le_trans HU.out.size ho
      have HO5 := Lib.hid (show TBlk w5 o ⟨0, 2, 3, 0⟩ from hO5)
      have HB5 := Lib.hid (TBlk.upd U5 HB1.out id)
      have HU5 := Lib.hid (by have h := HU.out; ((with_reducible repeat' first | exact Upd.refl _ _ | apply Upd.drew | apply Upd.drewN | apply Upd.alloc | refine Upd.setCell ?_ ?_ | refine Upd.call U5 ?_ ?_ | refine Upd.call h ?_ ?_) <;> first | (intro _ _ h; exact h) | (intro _ _ h; exact h.elim) | (intro i h1 h2; exfalso; (try simp only at h2); omega) | (left; rfl) | (right; dsimp only; omega) | (right; omega)) : Upd Non w w5)
      clear hO5 U5
      go_wp2_with fail
      refine (tick_spec o _ ok3 _ HO5.out).mono ?_
      rintro e w6 ⟨rfl, hO6, U6⟩
      have HO6 := Lib.hid (show TBlk w6 o ⟨1, 2, 3, 0⟩ from hO6)
      have HB6 := Lib.hid (TBlk.upd U6 HB5.out hbo)
      have HU6 := Lib.hid (by have h := HU5.out; ((with_reducible repeat' first | exact Upd.refl _ _ | apply Upd.drew | apply Upd.drewN | apply Upd.alloc | refine Upd.setCell ?_ ?_ | refine Upd.call U6 ?_ ?_ | refine Upd.call h ?_ ?_) <;> first | (intro _ _ h; exact h) | (intro _ _ h; exact h.elim) | (intro i h1 h2; exfalso; (try simp only at h2); omega) | (left; rfl) | (right; dsimp only; omega) | (right; omega)) : Upd Non w w6)
      clear hO6 U6
      go_wp2_with fail
      refine (tick_spec o ⟨1, 2, 3, 0⟩ ⟨by decide, by decide, by decide, by decide⟩ _ HO6.out).mono ?_
      rintro e w7 ⟨rfl, hO7, U7⟩
      have HO7 := Lib.hid (show TBlk w7 o ⟨2, 2, 2, 1⟩ from hO7)
      have HB7 := Lib.hid (TBlk.upd U7 HB6.out hbo)
      have HU7 := Lib.hid (by have h := HU6.out; ((with_reducible repeat' first | exact Upd.refl _ _ | apply Upd.drew | apply Upd.drewN | apply Upd.alloc | refine Upd.setCell ?_ ?_ | refine Upd.call U7 ?_ ?_ | refine Upd.call h ?_ ?_) <;> first | (intro _ _ h; exact h) | (intro _ _ h; exact h.elim) | (intro i h1 h2; exfalso; (try simp only at h2); omega) | (left; rfl) | (right; dsimp only; omega) | (right; omega)) : Upd Non w w7)
      clear hO7 U7
      go_wp2_with fail
      refine (line_spec o ⟨2, 2, 2, 1⟩ ⟨by decide, by decide, by decide, by decide⟩ _ HO7.out).mono ?_
      rintro e w8 ⟨rfl, rfl⟩
      rw [show TS.line ⟨2, 2, 2, 1⟩ = true from rfl]
      go_wp2_with fail
      refine (write_spec o _ 3 9 (by decide) _ HO7.out).mono ?_
      rintro e w8 ⟨rfl, hO8, U8⟩
      have HO8 := Lib.hid (show TBlk w8 o ⟨2, 2, 2, 0⟩ from hO8)
      have HB8 := Lib.hid (TBlk.upd U8 HB7.out hbo)
      have HU8 := Lib.hid (by have h := HU7.out; ((with_reducible repeat' first | exact Upd.refl _ _ | apply Upd.drew | apply Upd.drewN | apply Upd.alloc | refine Upd.setCell ?_ ?_ | refine Upd.call U8 ?_ ?_ | refine Upd.call h ?_ ?_) <;> first | (intro _ _ h; exact h) | (intro _ _ h; exact h.elim) | (intro i h1 h2; exfalso; (try simp only at h2); omega) | (left; rfl) | (right; dsimp only; omega) | (right; omega)) : Upd Non w w8)
      clear hO8 U8
      go_wp2_with fail
      refine (state_spec b _ _ HB8.out).mono ?_
      rintro e w9 ⟨rfl, U9⟩
      have HO9 := Lib.hid (TBlk.upd U9 HO8.out id)
      have HB9 := Lib.hid (TBlk.upd U9 HB8.out id)
      have HU9 := Lib.hid (by have h := HU8.out; ((with_reducible repeat' first | exact Upd.refl _ _ | apply Upd.drew | apply Upd.drewN | apply Upd.alloc | refine Upd.setCell ?_ ?_ | refine Upd.call U9 ?_ ?_ | refine Upd.call h ?_ ?_) <;> first | (intro _ _ h; exact h) | (intro _ _ h; exact h.elim) | (intro i h1 h2; exfalso; (try simp only at h2); omega) | (left; rfl) | (right; dsimp only; omega) | (right; omega)) : Upd Non w w9)
      clear U9
      unfold TS.vals
      go_wp2_with fail
      refine (line_spec b ⟨0, 2, 7, 2⟩ ⟨by decide, by decide, by decide, by decide⟩ _ HB9.out).mono ?_
      rintro e w10 ⟨rfl, rfl⟩
      rw [show TS.line ⟨0, 2, 7, 2⟩ = true from rfl]
      go_wp2_with fail
      refine (state_spec o _ _ HO9.out).mono ?_
      rintro e w10 ⟨rfl, U10⟩
      have HO10 := Lib.hid (TBlk.upd U10 HO9.out id)
      have HU10 := Lib.hid (by have h := HU9.out; ((with_reducible repeat' first | exact Upd.refl _ _ | apply Upd.drew | apply Upd.drewN | apply Upd.alloc | refine Upd.setCell ?_ ?_ | refine Upd.call U10 ?_ ?_ | refine Upd.call h ?_ ?_) <;> first | (intro _ _ h; exact h) | (intro _ _ h; exact h.elim) | (intro i h1 h2; exfalso; (try simp only at h2); omega) | (left; rfl) | (right; dsimp only; omega) | (right; omega)) : Upd Non w w10)
      clear U10
      unfold TS.vals
      go_wp2_with fail
      refine (line_spec o ⟨2, 2, 2, 0⟩ ⟨by decide, by decide, by decide, by decide⟩ _ HO10.out).mono ?_
      rintro e w11 ⟨rfl, rfl⟩
      rw [show TS.line ⟨2, 2, 2, 0⟩ = false from rfl]
      go_wp2_with fail
      go_ret
      exact ⟨rfl, HU10.out⟩
end Go.Proofs.Ytmblplhehbdocaa
