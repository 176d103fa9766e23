/- The ports' functions for any world: each contract in one form, over functions of the state. Conditions: the ports' block is known whole. -/
import Derived.Test.YtmblplhehbdocaaPortTake
import Derived.Test.YtmblplhehbdocaaWays
namespace Go.Proofs.Ytmblplhehbdocaa
open Go.RowKit

def badW (k : Int) : Prop := k < 0 ∨ 7 < k
instance (k : Int) : Decidable (badW k) := inferInstanceAs (Decidable (_ ∨ _))
def QS.putE (s : QS) (k : Int) : Int := if badW k then 2 else if s.st k.toNat = 0 then 0 else 14
def QS.putS (s : QS) (k : Int) (a : AK) : QS := if badW k then s else if s.st k.toNat = 0 then s.set k.toNat 1 a else s
def QS.takeA (s : QS) (k : Int) : AK := if badW k then AK.no else if s.st k.toNat = 1 then s.ak k.toNat else AK.no
def QS.takeO (s : QS) (k : Int) : Bool := if badW k then false else if s.st k.toNat = 1 then true else false
def QS.takeS (s : QS) (k : Int) : QS := if badW k then s else if s.st k.toNat = 1 then s.turn k.toNat 2 else s
def QS.backE (s : QS) (k : Int) : Int := if badW k then 2 else if s.st k.toNat = 2 then 0 else 9
def QS.backS (s : QS) (k : Int) : QS := if badW k then s else if s.st k.toNat = 2 then s.set k.toNat 0 AK.no else s
def QS.stE (s : QS) (k : Int) : Int := if badW k then 0 else s.st k.toNat
def QS.lookA (s : QS) (k : Int) : AK := if s.stE k = 0 then AK.no else s.ak k.toNat
def QS.lookO (s : QS) (k : Int) : Bool := if s.stE k = 0 then false else true

theorem QBlk.non {w w' : World} {b : Nat} {s : QS} (h : QBlk w b s) (u : Upd Non w w') : QBlk w' b s ∧ Upd (fun i => i = b) w w' := ⟨QBlk.upd u h id, u.mono fun _ _ h => h.elim⟩
theorem good_nat {k : Int} (h : ¬ badW k) : ∃ n : Nat, k = n ∧ n < 8 := ⟨k.toNat, by unfold badW at h; omega, by unfold badW at h; omega⟩

theorem put_any (s : QS) (b : Nat) (k : Int) (a : AK) (w : World) (hb : QBlk w b s) :
    Calls Try.prog 31 #[.pointer (some ⟨b, 0, none⟩), .int .i64 k, .agg a.enc] w fun e w' => e = .returned (.int .i64 (s.putE k)) ∧ QBlk w' b (s.putS k a) ∧ Upd (fun i => i = b) w w' := by
  unfold QS.putE QS.putS
  by_cases h : badW k
  · rw [if_pos h, if_pos h]
    exact (put_bad s b k a h w hb).mono fun e w' ⟨he, hu⟩ => ⟨he, hb.non hu⟩
  · rw [if_neg h, if_neg h]
    obtain ⟨n, rfl, hn⟩ := good_nat h
    rw [Int.toNat_natCast]
    by_cases h0 : s.st n = 0
    · rw [if_pos h0, if_pos h0]
      exact put_ok s b n a hn h0 w hb
    · rw [if_neg h0, if_neg h0]
      exact (put_busy s b n a hn h0 w hb).mono fun e w' ⟨he, hu⟩ => ⟨he, hb.non hu⟩
theorem take_any (s : QS) (b : Nat) (k : Int) (w : World) (hb : QBlk w b s) :
    Calls Try.prog 30 #[.pointer (some ⟨b, 0, none⟩), .int .i64 k] w fun e w' => e = .returned (.tuple #[.agg (s.takeA k).enc, .bool (s.takeO k)]) ∧ QBlk w' b (s.takeS k) ∧ Upd (fun i => i = b) w w' := by
  unfold QS.takeA QS.takeO QS.takeS
  by_cases h : badW k
  · rw [if_pos h, if_pos h, if_pos h]
    exact (take_bad s b k h w hb).mono fun e w' ⟨he, hu⟩ => ⟨he, hb.non hu⟩
  · rw [if_neg h, if_neg h, if_neg h]
    obtain ⟨n, rfl, hn⟩ := good_nat h
    rw [Int.toNat_natCast]
    by_cases h0 : s.st n = 1
    · rw [if_pos h0, if_pos h0, if_pos h0]
      exact take_ok s b n hn h0 w hb
    · rw [if_neg h0, if_neg h0, if_neg h0]
      exact (take_no s b n hn h0 w hb).mono fun e w' ⟨he, hu⟩ => ⟨he, hb.non hu⟩
theorem back_any (s : QS) (b : Nat) (k : Int) (w : World) (hb : QBlk w b s) :
    Calls Try.prog 33 #[.pointer (some ⟨b, 0, none⟩), .int .i64 k] w fun e w' => e = .returned (.int .i64 (s.backE k)) ∧ QBlk w' b (s.backS k) ∧ Upd (fun i => i = b) w w' := by
  unfold QS.backE QS.backS
  by_cases h : badW k
  · rw [if_pos h, if_pos h]
    exact (back_bad s b k h w hb).mono fun e w' ⟨he, hu⟩ => ⟨he, hb.non hu⟩
  · rw [if_neg h, if_neg h]
    obtain ⟨n, rfl, hn⟩ := good_nat h
    rw [Int.toNat_natCast]
    by_cases h0 : s.st n = 2
    · rw [if_pos h0, if_pos h0]
      exact back_ok s b n hn h0 w hb
    · rw [if_neg h0, if_neg h0]
      exact (back_no s b n hn h0 w hb).mono fun e w' ⟨he, hu⟩ => ⟨he, hb.non hu⟩
theorem state_any (s : QS) (b : Nat) (k : Int) (w : World) (hb : QBlk w b s) :
    Calls Try.prog 34 #[.pointer (some ⟨b, 0, none⟩), .int .i64 k] w fun e w' => e = .returned (.int .i64 (s.stE k)) ∧ w = w' := by
  unfold QS.stE
  by_cases h : badW k
  · rw [if_pos h]
    exact state_bad s b k h w hb
  · rw [if_neg h]
    obtain ⟨n, rfl, hn⟩ := good_nat h
    rw [Int.toNat_natCast]
    exact state_spec s b n hn w hb
set_option maxRecDepth 100000 in
set_option maxHeartbeats 4000000 in
theorem look_any (s : QS) (b : Nat) (k : Int) (w : World) (hb : QBlk w b s) :
    Calls Try.prog 41 #[.pointer (some ⟨b, 0, none⟩), .int .i64 k] w fun e w' => e = .returned (.tuple #[.agg (s.lookA k).enc, .bool (s.lookO k)]) ∧ Upd Non w w' := by
  have HB := Lib.hid hb
  unfold QS.lookA QS.lookO
  by_cases h0 : s.stE k = 0
  · rw [if_pos h0, if_pos h0]
    have H0 := Lib.hid h0
    clear hb h0
    go_enter Try.func41, Try.ntmps41
    go_wp2_with fail
    refine (state_any s b k _ (QBlk.upd (S := Non) (by ((with_reducible repeat' first | exact Upd.refl _ _ | apply Upd.drew | apply Upd.drewN | apply Upd.alloc | refine Upd.setCell ?_ ?_) <;> first | (intro _ _ h; exact h) | (intro _ _ h; exact h.elim) | (intro i h1 h2; exfalso; (try simp only at h2); omega) | (left; rfl) | (right; dsimp only; omega) | (right; omega))) HB.out id)).mono ?_
    rintro e w1 ⟨rfl, rfl⟩
    rw [H0.out]
    go_wp2_with (refine wpList_store_row rfl 55 _ _ rfl w.heap.size AK.no.enc rfl rfl 55 AK.no.enc (heap_alloc_new w _) (by kernel_rfl) rfl (AK.enc_one _) ?_; rw [World.setRow_alloc_new])
    exact bodyPost_ret (results_two Try.results41 _ _ w.heap.size 55 AK.no.enc (0, 0) _ (.bool false) rfl rfl (heap_alloc_new w _) Try.underlying55 rfl (by kernel_rfl)) rfl ⟨rfl, by ((with_reducible repeat' first | exact Upd.refl _ _ | apply Upd.drew | apply Upd.drewN | apply Upd.alloc | refine Upd.setCell ?_ ?_) <;> first | (intro _ _ h; exact h) | (intro _ _ h; exact h.elim) | (intro i h1 h2; exfalso; (try simp only at h2); omega) | (left; rfl) | (right; dsimp only; omega) | (right; omega))⟩
  · rw [if_neg h0, if_neg h0]
    have hg : ¬ badW k := fun h => h0 (by unfold QS.stE; rw [if_pos h])
    obtain ⟨n, rfl, hn⟩ := good_nat hg
    have h8 : (n : Int) < 8 := by omega
    have h1 : (s.stE (n : Int) == 0) = false := by simpa using h0
    have HRG := Lib.hid (QS.range s b n hn hb)
    have HZ := Lib.hid (rfl : w.heap.size = w.heap.size)
    rw [Int.toNat_natCast]
    clear hb h0 hg
    go_enter Try.func41, Try.ntmps41
    go_wp2_with fail
    refine (state_any s b n _ (QBlk.upd (S := Non) (by ((with_reducible repeat' first | exact Upd.refl _ _ | apply Upd.drew | apply Upd.drewN | apply Upd.alloc | refine Upd.setCell ?_ ?_) <;> first | (intro _ _ h; exact h) | (intro _ _ h; exact h.elim) | (intro i h1 h2; exfalso; (try simp only at h2); omega) | (left; rfl) | (right; dsimp only; omega) | (right; omega))) HB.out id)).mono ?_
    rintro e w1 ⟨rfl, rfl⟩
    go_wp2_with (first
      | (refine wpList_load_mid rfl 55 _ rfl b (n * 20 + 1) rfl (s.ak n).enc.toList _ (World.rangeAt_alloc HRG.out _) Try.underlying55 rfl (by kernel_rfl) ?_)
      | (refine wpList_store_row rfl 55 _ _ rfl w.heap.size (s.ak n).enc rfl rfl 55 AK.no.enc (heap_alloc_new w _) (by kernel_rfl) rfl (AK.enc_one _) ?_; rw [World.setRow_alloc_new]))
    exact bodyPost_ret (results_two Try.results41 _ _ w.heap.size 55 (s.ak n).enc (0, 0) _ (.bool true) rfl rfl (heap_alloc_new w _) Try.underlying55 rfl (by kernel_rfl)) rfl ⟨rfl, by ((with_reducible repeat' first | exact Upd.refl _ _ | apply Upd.drew | apply Upd.drewN | apply Upd.alloc | refine Upd.setCell ?_ ?_) <;> first | (intro _ _ h; exact h) | (intro _ _ h; exact h.elim) | (intro i h1 h2; exfalso; (try simp only at h2); omega) | (left; rfl) | (right; dsimp only; omega) | (right; omega))⟩
end Go.Proofs.Ytmblplhehbdocaa
