/- Contracts of the board's small functions. Conditions: the board's block is known whole. -/
import Derived.Test.YtkhhmkcpbefadaaIrqModel
namespace Go.Proofs.Ytkhhmkcpbefadaa
open Go.RowKit

def BBlk (w : World) (b : Nat) (v : Value) (s : WS) : Prop := Blk w b (benc v s) 70
theorem BBlk.blk {w : World} {b : Nat} {v : Value} {s : WS} (h : BBlk w b v s) : Blk w b (benc v s) 70 := h
theorem BBlk.upd {S : Nat → Prop} {w w' : World} {b : Nat} {v : Value} {s : WS} (u : Upd S w w') (h : BBlk w b v s) (hs : ¬ S b) : BBlk w' b v s := Blk.upd u h hs
def badW (k : Int) : Prop := k < 0 ∨ 7 < k
instance (k : Int) : Decidable (badW k) := inferInstanceAs (Decidable (_ ∨ _))
theorem good_nat {k : Int} (h : ¬ badW k) : ∃ n : Nat, k = n ∧ n < 8 := ⟨k.toNat, by unfold badW at h; omega, by unfold badW at h; omega⟩
theorem may_yes (k : Int) (h1 : -1 ≤ k) (h2 : k < 8) (w : World) : Calls Try.prog 29 #[.int .i64 k] w fun e w' => e = .returned (.bool true) ∧ w = w' := by
  go_enter Try.func29, Try.ntmps29
  go_wp2
  go_ret
  exact ⟨rfl, rfl⟩
theorem may_no (k : Int) (h : k < -1 ∨ 8 ≤ k) (w : World) : Calls Try.prog 29 #[.int .i64 k] w fun e w' => e = .returned (.bool false) ∧ w = w' := by
  rcases h with h | h
  · have h1 : ¬ (-1 : Int) ≤ k := by omega
    go_enter Try.func29, Try.ntmps29
    go_wp2
    go_ret
    exact ⟨rfl, rfl⟩
  · have h1 : (-1 : Int) ≤ k := by omega
    have h2 : ¬ k < 8 := by omega
    go_enter Try.func29, Try.ntmps29
    go_wp2
    go_ret
    exact ⟨rfl, rfl⟩
theorem there_is {v : Value} {s : WS} {b : Nat} (w : World) (hb : BBlk w b v s) : Calls Try.prog 30 #[.pointer (some ⟨b, 0, none⟩)] w fun e w' => e = .returned (.bool true) ∧ w = w' := by
  have h4 : w.cell? ⟨b, 17, none⟩ = some (.bool true) := hb.blk.cell 17 (benc_made v s)
  clear hb
  go_enter Try.func30, Try.ntmps30
  go_wp2
  go_ret
  exact ⟨rfl, rfl⟩
theorem of_bad (b : Nat) (k : Int) (h : badW k) (w : World) : Calls Try.prog 31 #[.pointer (some ⟨b, 1, none⟩), .int .i64 k] w fun e w' => e = .returned (.tuple #[.pointer none, .bool false]) ∧ w = w' := by
  rcases h with h | h
  · go_enter Try.func31, Try.ntmps31
    go_wp2
    go_ret2
    exact ⟨rfl, rfl⟩
  · have h1 : ¬ k < 0 := by omega
    have h2 : 8 ≤ k := by omega
    go_enter Try.func31, Try.ntmps31
    go_wp2
    go_ret2
    exact ⟨rfl, rfl⟩
theorem of_is (b k : Nat) (hk : k < 8) (w : World) : Calls Try.prog 31 #[.pointer (some ⟨b, 1, none⟩), .int .i64 k] w fun e w' => e = .returned (.tuple #[.pointer (some ⟨b, 1 + k * 2, none⟩), .bool true]) ∧ w = w' := by
  have h1 : ¬ (k : Int) < 0 := by omega
  have h2 : ¬ (8 : Int) ≤ k := by omega
  have h3 : (k : Int) < 8 := by omega
  go_enter Try.func31, Try.ntmps31
  go_wp2
  go_ret2
  exact ⟨rfl, rfl⟩
theorem mask_is {v : Value} {s : WS} {b k m : Nat} (hk : k < 8) (w : World) (hb : BBlk w b v s) :
    Calls Try.prog 11 #[.pointer (some ⟨b, 0, none⟩), .int .i64 k, .int .u8 m] w fun e w' => e = .returned (.int .i64 0) ∧ BBlk w' b v (s.setL k m) ∧ Upd (fun i => i = b) w w' := by
  have HB := Lib.hid hb
  have c0 := hb.blk.cell _ (benc_cell v s k hk).2
  have f0 := hb.blk.frozen (1 + k * 2 + 1)
  clear hb
  go_enter Try.func11, Try.ntmps11
  go_wp2_with (first | (go_at_call 30; refine (there_is _ HB.out).mono ?_; rintro e w1 ⟨rfl, rfl⟩) | (go_at_call 31; refine (of_is b k hk _).mono ?_; rintro e w1 ⟨rfl, rfl⟩))
  go_ret
  exact ⟨rfl, Blk.eq (Blk.set HB.out.blk) (benc_setL v s k hk m), by ((with_reducible repeat' first | exact Upd.refl _ _ | apply Upd.drew | apply Upd.drewN | apply Upd.alloc | refine Upd.setCell ?_ ?_) <;> first | (intro _ _ h; exact h) | (intro _ _ h; exact h.elim) | (intro i h1 h2; exfalso; (try simp only at h2); omega) | (left; rfl) | (right; dsimp only; omega) | (right; omega))⟩
theorem pend_is {v : Value} {s : WS} {b k : Nat} (hk : k < 8) (w : World) (hb : BBlk w b v s) :
    Calls Try.prog 13 #[.pointer (some ⟨b, 0, none⟩), .int .i64 k] w fun e w' => e = .returned (.int .u8 (s.wt k)) ∧ w = w' := by
  have HB := Lib.hid hb
  have c0 := hb.blk.cell _ (benc_cell v s k hk).1
  clear hb
  go_enter Try.func13, Try.ntmps13
  go_wp2_with (first | (go_at_call 30; refine (there_is _ HB.out).mono ?_; rintro e w1 ⟨rfl, rfl⟩) | (go_at_call 31; refine (of_is b k hk _).mono ?_; rintro e w1 ⟨rfl, rfl⟩))
  go_ret
  exact ⟨rfl, rfl⟩
theorem lets_is {v : Value} {s : WS} {b k : Nat} (hk : k < 8) (w : World) (hb : BBlk w b v s) :
    Calls Try.prog 21 #[.pointer (some ⟨b, 0, none⟩), .int .i64 k] w fun e w' => e = .returned (.int .u8 (s.le k)) ∧ w = w' := by
  have HB := Lib.hid hb
  have c0 := hb.blk.cell _ (benc_cell v s k hk).2
  clear hb
  go_enter Try.func21, Try.ntmps21
  go_wp2_with (first | (go_at_call 30; refine (there_is _ HB.out).mono ?_; rintro e w1 ⟨rfl, rfl⟩) | (go_at_call 31; refine (of_is b k hk _).mono ?_; rintro e w1 ⟨rfl, rfl⟩))
  go_ret
  exact ⟨rfl, rfl⟩
end Go.Proofs.Ytkhhmkcpbefadaa
