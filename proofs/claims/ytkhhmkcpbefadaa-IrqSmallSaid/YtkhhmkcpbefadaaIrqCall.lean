/- Call. Conditions: the board's block is known whole; what it holds are bytes. -/
import Derived.Test.YtkhhmkcpbefadaaIrqLow
import Derived.Test.YtkhhmkcpbefadaaGrow
namespace Go.Proofs.Ytkhhmkcpbefadaa
open Go.RowKit
theorem call_no {v : Value} {s : WS} {b k : Nat} (hk : k < 8) (ha : s.wt k < 256) (hl : s.le k < 256) (h0 : s.wt k &&& s.le k = 0) (w : World) (hb : BBlk w b v s) :
    Calls Try.prog 14 #[.pointer (some ⟨b, 0, none⟩), .int .i64 k] w fun e w' => e = .returned (.tuple #[.int .i64 0, .bool false]) ∧ Upd Non w w' := by
  have HB := Lib.hid hb
  have c0 := hb.blk.cell _ (benc_cell v s k hk).1
  have c1 := hb.blk.cell _ (benc_cell v s k hk).2
  have z1 := bits_and_byte (s.wt k) (s.le k) ha hl
  rw [h0] at z1
  clear hb h0
  go_enter Try.func14, Try.ntmps14
  go_wp2_with (first | (go_at_call 30; refine (there_is _ HB.out).mono ?_; rintro e w1 ⟨rfl, rfl⟩) | (go_at_call 31; refine (of_is b k hk _).mono ?_; rintro e w1 ⟨rfl, rfl⟩))
  go_quiet (fail)
  go_wp2_with fail
  go_ret2
  exact ⟨rfl, by ((with_reducible repeat' first | exact Upd.refl _ _ | apply Upd.drew | apply Upd.drewN | apply Upd.alloc | refine Upd.setCell ?_ ?_) <;> first | (intro _ _ h; exact h) | (intro _ _ h; exact h.elim) | (intro i h1 h2; exfalso; (try simp only at h2); omega) | (left; rfl) | (right; dsimp only; omega) | (right; omega))⟩
theorem tz_is (m L : Nat) (hm : m < 256) (hL : low m = L) (w : World) : Calls Try.prog 32 #[.int .u8 (m : Int)] w fun e w' => e = .returned (.int .i64 L) ∧ w' = w :=
  (tz_spec m hm w).mono fun e w' h => ⟨by rw [← hL]; exact h.1, h.2.symm⟩
theorem call_yes {v : Value} {s : WS} {b k L : Nat} (hk : k < 8) (ha : s.wt k < 256) (hl : s.le k < 256) (h0 : s.wt k &&& s.le k ≠ 0) (hL : low (s.wt k &&& s.le k) = L) (w : World) (hb : BBlk w b v s) :
    Calls Try.prog 14 #[.pointer (some ⟨b, 0, none⟩), .int .i64 k] w fun e w' => e = .returned (.tuple #[.int .i64 L, .bool true]) ∧ BBlk w' b v (s.setW k (clr (s.wt k) L)) ∧ Upd (fun i => i = b) w w' := by
  have HB := Lib.hid hb
  have c0 := hb.blk.cell _ (benc_cell v s k hk).1
  have c1 := hb.blk.cell _ (benc_cell v s k hk).2
  have f0 := hb.blk.frozen (1 + k * 2)
  have z1 := bits_and_byte (s.wt k) (s.le k) ha hl
  have hx : s.wt k &&& s.le k < 256 := by have := Nat.and_lt_two_pow (s.wt k) (y := s.le k) (n := 8) (by omega); omega
  have hL8 : L < 8 := by rw [← hL]; exact (low_lt _ hx h0).1
  have z3 : bits .andNot .u8 ((s.wt k : Nat) : Int) ((2 : Int) ^ L) = ((clr (s.wt k) L : Nat) : Int) := by
    have h := bits_clr (s.wt k) L ha hL8
    rwa [← shl_byte L hL8, show IntKind.u8.wrap ((2 : Int) ^ L) = (2 : Int) ^ L by rw [shl_byte L hL8]; simp] at h
  have z4 : IntKind.u8.wrap ((2 : Int) ^ L) = (2 : Int) ^ L := by rw [shl_byte L hL8]; simp
  have HL := Lib.hid hL
  have HX := Lib.hid hx
  obtain ⟨m, hm⟩ : ∃ m, s.wt k &&& s.le k = m := ⟨_, rfl⟩
  rw [hm] at z1 h0
  have HM := Lib.hid hm
  have z5 : ((m : Int) == 0) = false := by simpa using h0
  have z6 : ¬ (L : Int) < 0 := by omega
  clear hb hL hx hm h0
  go_enter Try.func14, Try.ntmps14
  go_wp2_with (first | (go_at_call 30; refine (there_is _ HB.out).mono ?_; rintro e w1 ⟨rfl, rfl⟩) | (go_at_call 31; refine (of_is b k hk _).mono ?_; rintro e w1 ⟨rfl, rfl⟩))
  go_quiet (fail)
  have HU2 := Lib.hid (show Upd Non w (w.drewN nq) from (Upd.refl _ _).drewN)
  obtain ⟨w2, hw2⟩ : ∃ x, x = w.drewN nq := ⟨_, rfl⟩
  rw [← hw2] at HU2 ⊢
  have HB2 := Lib.hid (BBlk.upd HU2.out HB.out id)
  clear c0 c1 f0 hw2
  have c0 := HB2.out.blk.cell _ (benc_cell v s k hk).1
  have c1 := HB2.out.blk.cell _ (benc_cell v s k hk).2
  have f0 := HB2.out.blk.frozen (1 + k * 2)
  go_wp2_with fail
  go_quiet ((first | (go_at_call 32; exact Calls.quiet_of_same (tz_is m L (by rw [← HM.out]; exact HX.out) (by rw [← HM.out]; exact HL.out) _))))
  go_wp2_with fail
  go_region
  all_goals
    go_wp2_with fail
    go_ret2
    exact ⟨rfl, Blk.eq (Blk.set (by exact HB2.out.blk)) (benc_setW v s k hk _), by have h := HU2.out; have h2 : Upd (fun i => i = b) w w2 := h.mono fun _ _ h => h.elim; ((with_reducible repeat' first | exact Upd.refl _ _ | apply Upd.drew | apply Upd.drewN | apply Upd.alloc | refine Upd.setCell ?_ ?_ | refine Upd.call h2 ?_ ?_) <;> first | (intro _ _ h; exact h) | (intro _ _ h; exact h.elim) | (intro i h1 h2; exfalso; (try simp only at h2); omega) | (left; rfl) | (right; dsimp only; omega) | (right; omega))⟩
end Go.Proofs.Ytkhhmkcpbefadaa
