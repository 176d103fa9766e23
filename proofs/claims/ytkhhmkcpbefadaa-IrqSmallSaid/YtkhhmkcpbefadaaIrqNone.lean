/- No board: nil, and one that New did not make. No condition. -/
import Derived.Test.YtkhhmkcpbefadaaIrqSize
namespace Go.Proofs.Ytkhhmkcpbefadaa
open Go.RowKit
/-- Nil, or a board that New did not make. -/
def Dead (w : World) (p : Option Addr) : Prop := p = none ∨ ∃ b, p = some ⟨b, 0, none⟩ ∧ w.cell? ⟨b, 17, none⟩ = some (.bool false)
theorem Dead.upd {w w' : World} {p : Option Addr} (h : Dead w p) (u : Upd Non w w') : Dead w' p := by
  rcases h with rfl | ⟨b, rfl, hc⟩
  · exact .inl rfl
  · exact .inr ⟨b, rfl, u.cell_eq id hc⟩
theorem there_dead {p : Option Addr} (w : World) (h : Dead w p) : Calls Try.prog 30 #[.pointer p] w fun e w' => e = .returned (.bool false) ∧ w = w' := by
  rcases h with rfl | ⟨b, rfl, hc⟩
  · go_enter Try.func30, Try.ntmps30
    go_wp2
    go_ret
    exact ⟨rfl, rfl⟩
  · go_enter Try.func30, Try.ntmps30
    go_wp2
    go_ret
    exact ⟨rfl, rfl⟩
theorem call_dead {p : Option Addr} (k : Int) (w : World) (h : Dead w p) : Calls Try.prog 14 #[.pointer p, .int .i64 k] w fun e w' => e = .returned (.tuple #[.int .i64 0, .bool false]) ∧ w = w' := by
  have H := Lib.hid h
  clear h
  go_enter Try.func14, Try.ntmps14
  go_wp2_with fail
  refine (there_dead _ H.out).mono ?_
  rintro e w1 ⟨rfl, rfl⟩
  go_wp2_with fail
  go_ret2
  exact ⟨rfl, rfl⟩
theorem drop_dead {p : Option Addr} (k : Int) (w : World) (h : Dead w p) : Calls Try.prog 18 #[.pointer p, .int .i64 k] w fun e w' => e = .returned (.int .i64 1) ∧ w = w' := by
  have H := Lib.hid h
  clear h
  go_enter Try.func18, Try.ntmps18
  go_wp2_with fail
  refine (there_dead _ H.out).mono ?_
  rintro e w1 ⟨rfl, rfl⟩
  go_wp2_with fail
  go_ret
  exact ⟨rfl, rfl⟩
theorem own_dead {p : Option Addr} (k v : Int) (w : World) (h : Dead w p) : Calls Try.prog 17 #[.pointer p, .int .i64 k, .int .i64 v] w fun e w' => e = .returned (.int .i64 1) ∧ Upd Non w w' := by
  have H := Lib.hid h
  clear h
  go_enter Try.func17, Try.ntmps17
  go_wp2_with fail
  refine (there_dead _ (H.out.upd (by ((with_reducible repeat' first | exact Upd.refl _ _ | apply Upd.drew | apply Upd.drewN | apply Upd.alloc | refine Upd.setCell ?_ ?_) <;> first | (intro _ _ h; exact h) | (intro _ _ h; exact h.elim) | (intro i h1 h2; exfalso; (try simp only at h2); omega) | (left; rfl) | (right; dsimp only; omega) | (right; omega))))).mono ?_
  rintro e w1 ⟨rfl, rfl⟩
  go_wp2_with fail
  go_ret
  exact ⟨rfl, by ((with_reducible repeat' first | exact Upd.refl _ _ | apply Upd.drew | apply Upd.drewN | apply Upd.alloc | refine Upd.setCell ?_ ?_) <;> first | (intro _ _ h; exact h) | (intro _ _ h; exact h.elim) | (intro i h1 h2; exfalso; (try simp only at h2); omega) | (left; rfl) | (right; dsimp only; omega) | (right; omega))⟩
theorem route_dead {p : Option Addr} (k v : Int) (w : World) (h : Dead w p) : Calls Try.prog 19 #[.pointer p, .int .i64 k, .int .i64 v] w fun e w' => e = .returned (.int .i64 1) ∧ Upd Non w w' := by
  have H := Lib.hid h
  clear h
  go_enter Try.func19, Try.ntmps19
  go_wp2_with fail
  refine (there_dead _ (H.out.upd (by ((with_reducible repeat' first | exact Upd.refl _ _ | apply Upd.drew | apply Upd.drewN | apply Upd.alloc | refine Upd.setCell ?_ ?_) <;> first | (intro _ _ h; exact h) | (intro _ _ h; exact h.elim) | (intro i h1 h2; exfalso; (try simp only at h2); omega) | (left; rfl) | (right; dsimp only; omega) | (right; omega))))).mono ?_
  rintro e w1 ⟨rfl, rfl⟩
  go_wp2_with fail
  go_ret
  exact ⟨rfl, by ((with_reducible repeat' first | exact Upd.refl _ _ | apply Upd.drew | apply Upd.drewN | apply Upd.alloc | refine Upd.setCell ?_ ?_) <;> first | (intro _ _ h; exact h) | (intro _ _ h; exact h.elim) | (intro i h1 h2; exfalso; (try simp only at h2); omega) | (left; rfl) | (right; dsimp only; omega) | (right; omega))⟩
theorem look_dead {p : Option Addr} (A : Option Addr) (n c : Nat) (w : World) (h : Dead w p) : Calls Try.prog 12 #[.pointer p, .slice A n c] w fun e w' => e = .returned (.int .i64 1) ∧ w = w' := by
  have H := Lib.hid h
  clear h
  go_enter Try.func12, Try.ntmps12
  go_wp2_with fail
  refine (there_dead _ H.out).mono ?_
  rintro e w1 ⟨rfl, rfl⟩
  go_wp2_with fail
  go_ret
  exact ⟨rfl, rfl⟩
theorem mask_dead {p : Option Addr} (k m : Int) (w : World) (h : Dead w p) : Calls Try.prog 11 #[.pointer p, .int .i64 k, .int .u8 m] w fun e w' => e = .returned (.int .i64 1) ∧ w = w' := by
  have H := Lib.hid h
  clear h
  go_enter Try.func11, Try.ntmps11
  go_wp2_with fail
  refine (there_dead _ H.out).mono ?_
  rintro e w1 ⟨rfl, rfl⟩
  go_wp2_with fail
  go_ret
  exact ⟨rfl, rfl⟩
theorem line_dead {p : Option Addr} (k : Int) (w : World) (h : Dead w p) : Calls Try.prog 20 #[.pointer p, .int .i64 k] w fun e w' => e = .returned (.int .i64 (-1)) ∧ w = w' := by
  have H := Lib.hid h
  clear h
  go_enter Try.func20, Try.ntmps20
  go_wp2_with fail
  refine (there_dead _ H.out).mono ?_
  rintro e w1 ⟨rfl, rfl⟩
  go_wp2_with fail
  go_ret
  exact ⟨rfl, rfl⟩
theorem pend_dead {p : Option Addr} (k : Int) (w : World) (h : Dead w p) : Calls Try.prog 13 #[.pointer p, .int .i64 k] w fun e w' => e = .returned (.int .u8 0) ∧ w = w' := by
  have H := Lib.hid h
  clear h
  go_enter Try.func13, Try.ntmps13
  go_wp2_with fail
  refine (there_dead _ H.out).mono ?_
  rintro e w1 ⟨rfl, rfl⟩
  go_wp2_with fail
  go_ret
  exact ⟨rfl, rfl⟩
theorem lets_dead {p : Option Addr} (k : Int) (w : World) (h : Dead w p) : Calls Try.prog 21 #[.pointer p, .int .i64 k] w fun e w' => e = .returned (.int .u8 0) ∧ w = w' := by
  have H := Lib.hid h
  clear h
  go_enter Try.func21, Try.ntmps21
  go_wp2_with fail
  refine (there_dead _ H.out).mono ?_
  rintro e w1 ⟨rfl, rfl⟩
  go_wp2_with fail
  go_ret
  exact ⟨rfl, rfl⟩
theorem copy_dead {p : Option Addr} (w : World) (h : Dead w p) : Calls Try.prog 48 #[.pointer p] w fun e w' => e = .returned (.pointer none) ∧ w = w' := by
  have H := Lib.hid h
  clear h
  go_enter Try.func48, Try.ntmps48
  go_wp2_with fail
  refine (there_dead _ H.out).mono ?_
  rintro e w1 ⟨rfl, rfl⟩
  go_wp2_with fail
  go_ret
  exact ⟨rfl, rfl⟩
set_option maxRecDepth 100000 in
set_option maxHeartbeats 16000000 in
theorem none_spec (w : World) : Calls Try.prog 28 #[] w fun e w' => e = .returned (.bool true) ∧ Upd Non w w' := by
  go_enter Try.func28, Try.ntmps28
  go_wp2_with fail
  obtain ⟨w1, hw1⟩ : ∃ x, x = (w.alloc (.cells #[.slice none 0 0, .int .u8 0, .int .u8 0, .int .u8 0, .int .u8 0, .int .u8 0, .int .u8 0, .int .u8 0, .int .u8 0, .int .u8 0, .int .u8 0, .int .u8 0, .int .u8 0, .int .u8 0, .int .u8 0, .int .u8 0, .int .u8 0, .bool false] 70)).alloc (.cells #[.pointer none, .pointer (some ⟨w.heap.size, 0, none⟩)] 24) := ⟨_, rfl⟩
  obtain ⟨bz, hbz⟩ : ∃ x, x = w.heap.size := ⟨_, rfl⟩
  obtain ⟨bl, hbl⟩ : ∃ x, x = w.heap.size + 1 := ⟨_, rfl⟩
  rw [← hw1, ← hbl, ← hbz]
  rw [← hbz] at hw1
  have HS := Lib.hid (show Blk w1 bl #[.pointer none, .pointer (some ⟨bz, 0, none⟩)] 24 ∧ Dead w1 (some ⟨bz, 0, none⟩) ∧ Upd Non w w1 from by
    refine ⟨by rw [hw1]; exact Blk.newAt (by rw [World.size_alloc]; exact hbl), .inr ⟨bz, rfl, ?_⟩, by rw [hw1]; ((with_reducible repeat' first | exact Upd.refl _ _ | apply Upd.drew | apply Upd.drewN | apply Upd.alloc | refine Upd.setCell ?_ ?_) <;> first | (intro _ _ h; exact h) | (intro _ _ h; exact h.elim) | (intro i h1 h2; exfalso; (try simp only at h2); omega) | (left; rfl) | (right; dsimp only; omega) | (right; omega))⟩
    have h : Blk w1 bz #[.slice none 0 0, .int .u8 0, .int .u8 0, .int .u8 0, .int .u8 0, .int .u8 0, .int .u8 0, .int .u8 0, .int .u8 0, .int .u8 0, .int .u8 0, .int .u8 0, .int .u8 0, .int .u8 0, .int .u8 0, .int .u8 0, .int .u8 0, .bool false] 70 := by rw [hw1]; exact Blk.alloc (Blk.newAt hbz)
    exact h.cell 17 rfl)
  clear hw1 hbl hbz
  go_loopw [2] (fun i wr => ∃ t : Nat, t ≤ 2 ∧ i = .int .i64 t ∧ Upd Non w1 wr) (fun i _ => 2 - (intOf i).toNat)
  case atStart => exact ⟨0, by omega, rfl, Upd.refl _ _⟩
  case round =>
    obtain ⟨t, ht, rfl, hU⟩ := hrel
    have HU := Lib.hid hU
    clear hU
    by_cases hlt : t < 2
    case neg =>
      have k1 : ¬ (t : Int) < 2 := by omega
      go_wp2_with fail
      go_ret
      exact ⟨rfl, Upd.call HU.out HS.out.2.2 fun _ _ h => h⟩
    have k1 : (t : Int) < 2 := by omega
    have hp : ∃ p, wr.cell? ⟨bl, t, none⟩ = some (.pointer p) ∧ Dead wr p := by
      have hb := Blk.upd HU.out HS.out.1 id
      rcases (show t = 0 ∨ t = 1 by omega) with rfl | rfl
      · exact ⟨none, hb.cell 0 rfl, .inl rfl⟩
      · exact ⟨_, hb.cell 1 rfl, HS.out.2.1.upd HU.out⟩
    obtain ⟨p, c0, hp⟩ := hp
    have HP := Lib.hid hp
    clear hp
    go_wp2_with fail
    refine (call_dead 0 _ HP.out).mono ?_
    rintro e w2 ⟨rfl, rfl⟩
    go_wp2_with fail
    refine (own_dead 0 0 _ HP.out).mono ?_
    rintro e w2 ⟨rfl, U2⟩
    have HU2 := Lib.hid U2
    clear U2 c0
    go_wp2_with fail
    refine (drop_dead 0 _ (HP.out.upd HU2.out)).mono ?_
    rintro e w3 ⟨rfl, rfl⟩
    go_wp2_with fail
    refine (route_dead 0 99 _ (HP.out.upd HU2.out)).mono ?_
    rintro e w3 ⟨rfl, U3⟩
    have HU3 := Lib.hid (Upd.call U3 HU2.out fun _ _ h => h)
    clear U3 HU2
    go_wp2_with fail
    refine (look_dead _ _ _ _ (HP.out.upd (by have h := HU3.out; ((with_reducible repeat' first | exact Upd.refl _ _ | apply Upd.drew | apply Upd.drewN | apply Upd.alloc | refine Upd.setCell ?_ ?_ | refine Upd.call h ?_ ?_) <;> first | (intro _ _ h; exact h) | (intro _ _ h; exact h.elim) | (intro i h1 h2; exfalso; (try simp only at h2); omega) | (left; rfl) | (right; dsimp only; omega) | (right; omega))))).mono ?_
    rintro e w4 ⟨rfl, rfl⟩
    obtain ⟨w4, hw4⟩ : ∃ x, x = w3.alloc (.cells #[.bool true] 4) := ⟨_, rfl⟩
    have HU4 := Lib.hid (show Upd Non wr w4 by rw [hw4]; exact HU3.out.alloc)
    rw [← hw4]
    clear hw4 HU3
    go_wp2_with fail
    refine (mask_dead 9 0 _ (HP.out.upd HU4.out)).mono ?_
    rintro e w5 ⟨rfl, rfl⟩
    go_wp2_with fail
    refine (line_dead 0 _ (HP.out.upd HU4.out)).mono ?_
    rintro e w5 ⟨rfl, rfl⟩
    go_wp2_with fail
    refine (pend_dead 0 _ (HP.out.upd HU4.out)).mono ?_
    rintro e w5 ⟨rfl, rfl⟩
    go_wp2_with fail
    refine (lets_dead 0 _ (HP.out.upd HU4.out)).mono ?_
    rintro e w5 ⟨rfl, rfl⟩
    go_wp2_with fail
    refine (copy_dead _ (HP.out.upd HU4.out)).mono ?_
    rintro e w5 ⟨rfl, rfl⟩
    go_wp2_with fail
    exact ⟨⟨t + 1, by omega, rfl, Upd.call HU4.out HU.out fun _ _ h => h⟩, by simp only [intOf]; omega⟩
end Go.Proofs.Ytkhhmkcpbefadaa
