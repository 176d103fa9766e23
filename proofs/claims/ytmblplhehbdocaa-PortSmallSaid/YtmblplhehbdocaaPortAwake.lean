/- The ports' example: awake returns true. No condition. -/
import Derived.Test.YtmblplhehbdocaaPortTake
import Derived.Test.YtmblplhehbdocaaWays
import Derived.Deep.RegionLaw
import Derived.Deep.DeepCutAuto
namespace Go.Proofs.Ytmblplhehbdocaa
open Go.RowKit

set_option maxRecDepth 100000 in
theorem ask_eq (x : AK) (w : World) : (binOp .eql 55 (.agg x.enc) (.agg x.enc)).run Try.prog w = .ok (.bool true) w := by
  unfold AK.enc
  go_simp
set_option maxRecDepth 100000 in
theorem ask_ne (x : AK) (w : World) : (binOp .neq 55 (.agg x.enc) (.agg x.enc)).run Try.prog w = .ok (.bool false) w := by
  unfold AK.enc
  go_simp
theorem ask_1 (w : World) : Calls Try.prog 32 #[.int .i64 1] w fun e w' => e = .returned (.agg (AK.of 1).enc) ∧ Upd Non w w' := ask_spec 1 w
theorem ask_2 (w : World) : Calls Try.prog 32 #[.int .i64 2] w fun e w' => e = .returned (.agg (AK.of 2).enc) ∧ Upd Non w w' := ask_spec 2 w
theorem put3_ok (s : QS) (b : Nat) (a : AK) (hv : s.st 3 = 0) (w : World) (hb : QBlk w b s) :
    Calls Try.prog 31 #[.pointer (some ⟨b, 0, none⟩), .int .i64 3, .agg a.enc] w fun e w' => e = .returned (.int .i64 0) ∧ QBlk w' b (s.set 3 1 a) ∧ Upd (fun i => i = b) w w' := put_ok s b 3 a (by decide) hv w hb
theorem put3_busy (s : QS) (b : Nat) (a : AK) (hv : ¬ s.st 3 = 0) (w : World) (hb : QBlk w b s) :
    Calls Try.prog 31 #[.pointer (some ⟨b, 0, none⟩), .int .i64 3, .agg a.enc] w fun e w' => e = .returned (.int .i64 14) ∧ Upd Non w w' := put_busy s b 3 a (by decide) hv w hb
theorem back3_no (s : QS) (b : Nat) (hv : ¬ s.st 3 = 2) (w : World) (hb : QBlk w b s) :
    Calls Try.prog 33 #[.pointer (some ⟨b, 0, none⟩), .int .i64 3] w fun e w' => e = .returned (.int .i64 9) ∧ Upd Non w w' := back_no s b 3 (by decide) hv w hb
theorem take3_ok (s : QS) (b : Nat) (hv : s.st 3 = 1) (w : World) (hb : QBlk w b s) :
    Calls Try.prog 30 #[.pointer (some ⟨b, 0, none⟩), .int .i64 3] w fun e w' => e = .returned (.tuple #[.agg (s.ak 3).enc, .bool true]) ∧ QBlk w' b (s.turn 3 2) ∧ Upd (fun i => i = b) w w' := take_ok s b 3 (by decide) hv w hb
theorem back3_ok (s : QS) (b : Nat) (hv : s.st 3 = 2) (w : World) (hb : QBlk w b s) :
    Calls Try.prog 33 #[.pointer (some ⟨b, 0, none⟩), .int .i64 3] w fun e w' => e = .returned (.int .i64 0) ∧ QBlk w' b (s.set 3 0 AK.no) ∧ Upd (fun i => i = b) w w' := back_ok s b 3 (by decide) hv w hb
theorem state3 (s : QS) (b : Nat) (v : Int) (hv : s.st 3 = v) (w : World) (hb : QBlk w b s) :
    Calls Try.prog 34 #[.pointer (some ⟨b, 0, none⟩), .int .i64 3] w fun e w' => e = .returned (.int .i64 v) ∧ w = w' := by
  rw [← hv]; exact state_spec s b 3 (by decide) w hb

def q1 : QS := QS.fresh.set 3 1 (AK.of 1)
def q2 : QS := q1.turn 3 2
def q3 : QS := q2.set 3 0 AK.no

def HQ (w x : World) (b b5 : Nat) : Prop := QBlk x b q3 ∧ Blk x b5 (AK.of 1).enc 55 ∧ Upd Non w x
theorem HQ.upd {w x y : World} {b b5 : Nat} (u : Upd Non x y) (h : HQ w x b b5) : HQ w y b b5 := ⟨QBlk.upd u h.1 id, Blk.upd u h.2.1 id, Upd.call u h.2.2 fun _ _ h => h⟩

set_option maxRecDepth 100000 in
set_option maxHeartbeats 8000000 in
theorem awake_spec (w : World) : Calls Try.prog 28 #[] w fun e w' => e = .returned (.bool true) ∧ Upd Non w w' := by
  go_enter Try.func28, Try.ntmps28
  go_wp2_with fail
  refine (new_spec _).mono ?_
  rintro e w1 ⟨rfl, hw1⟩
  obtain ⟨b, hbb⟩ : ∃ b, b = w.heap.size := ⟨_, rfl⟩
  rw [← hbb]
  have HB1 := Lib.hid (show QBlk w1 b QS.fresh by rw [hw1]; exact Blk.newAt hbb)
  have HU1 := Lib.hid (show Upd Non w w1 by rw [hw1]; exact (Upd.refl _ _).alloc)
  have hbw : w.heap.size ≤ b := by omega
  clear hw1 hbb
  go_wp2_with fail
  refine (ask_1 _).mono ?_
  rintro e w2 ⟨rfl, U2⟩
  have HB2 := Lib.hid (QBlk.upd U2 HB1.out id)
  have HU2 := Lib.hid (by have h := HU1.out; ((with_reducible repeat' first | exact Upd.refl _ _ | apply Upd.drew | apply Upd.drewN | apply Upd.alloc | refine Upd.setCell ?_ ?_ | refine Upd.call U2 ?_ ?_ | refine Upd.call h ?_ ?_) <;> first | (intro _ _ h; exact h) | (intro _ _ h; exact h.elim) | (intro i h1 h2; exfalso; (try simp only at h2); omega) | (left; rfl) | (right; dsimp only; omega) | (right; omega)) : Upd Non w w2)
  clear U2
  go_wp2_with fail
  refine (put3_ok QS.fresh b _ rfl _ HB2.out).mono ?_
  rintro e w3 ⟨rfl, hB3, U3⟩
  have HB3 := Lib.hid (show QBlk w3 b q1 from hB3)
  have HU3 := Lib.hid (by have h := HU2.out; ((with_reducible repeat' first | exact Upd.refl _ _ | apply Upd.drew | apply Upd.drewN | apply Upd.alloc | refine Upd.setCell ?_ ?_ | refine Upd.call U3 ?_ ?_ | refine Upd.call h ?_ ?_) <;> first | (intro _ _ h; exact h) | (intro _ _ h; exact h.elim) | (intro i h1 h2; exfalso; (try simp only at h2); omega) | (left; rfl) | (right; dsimp only; omega) | (right; omega)) : Upd Non w w3)
  clear hB3 U3
  go_wp2_with fail
  refine (ask_2 _).mono ?_
  rintro e w4 ⟨rfl, U4⟩
  have HB4 := Lib.hid (QBlk.upd U4 HB3.out id)
  have HU4 := Lib.hid (by have h := HU3.out; ((with_reducible repeat' first | exact Upd.refl _ _ | apply Upd.drew | apply Upd.drewN | apply Upd.alloc | refine Upd.setCell ?_ ?_ | refine Upd.call U4 ?_ ?_ | refine Upd.call h ?_ ?_) <;> first | (intro _ _ h; exact h) | (intro _ _ h; exact h.elim) | (intro i h1 h2; exfalso; (try simp only at h2); omega) | (left; rfl) | (right; dsimp only; omega) | (right; omega)) : Upd Non w w4)
  clear U4
  go_wp2_with fail
  refine (put3_busy q1 b _ (by decide) _ HB4.out).mono ?_
  rintro e w5 ⟨rfl, U5⟩
  have HB5 := Lib.hid (QBlk.upd U5 HB4.out id)
  have HU5 := Lib.hid (by have h := HU4.out; ((with_reducible repeat' first | exact Upd.refl _ _ | apply Upd.drew | apply Upd.drewN | apply Upd.alloc | refine Upd.setCell ?_ ?_ | refine Upd.call U5 ?_ ?_ | refine Upd.call h ?_ ?_) <;> first | (intro _ _ h; exact h) | (intro _ _ h; exact h.elim) | (intro i h1 h2; exfalso; (try simp only at h2); omega) | (left; rfl) | (right; dsimp only; omega) | (right; omega)) : Upd Non w w5)
  clear U5
  go_wp2_with fail
  refine (back3_no q1 b (by decide) _ HB5.out).mono ?_
  rintro e w6 ⟨rfl, U6⟩
  have HB6 := Lib.hid (QBlk.upd U6 HB5.out id)
  have HU6 := Lib.hid (by have h := HU5.out; ((with_reducible repeat' first | exact Upd.refl _ _ | apply Upd.drew | apply Upd.drewN | apply Upd.alloc | refine Upd.setCell ?_ ?_ | refine Upd.call U6 ?_ ?_ | refine Upd.call h ?_ ?_) <;> first | (intro _ _ h; exact h) | (intro _ _ h; exact h.elim) | (intro i h1 h2; exfalso; (try simp only at h2); omega) | (left; rfl) | (right; dsimp only; omega) | (right; omega)) : Upd Non w w6)
  clear U6
  go_wp2_with fail
  refine (take3_ok q1 b rfl _ HB6.out).mono ?_
  rintro e w7 ⟨rfl, hB7, U7⟩
  have HB7 := Lib.hid (show QBlk w7 b q2 from hB7)
  have HU7 := Lib.hid (by have h := HU6.out; ((with_reducible repeat' first | exact Upd.refl _ _ | apply Upd.drew | apply Upd.drewN | apply Upd.alloc | refine Upd.setCell ?_ ?_ | refine Upd.call U7 ?_ ?_ | refine Upd.call h ?_ ?_) <;> first | (intro _ _ h; exact h) | (intro _ _ h; exact h.elim) | (intro i h1 h2; exfalso; (try simp only at h2); omega) | (left; rfl) | (right; dsimp only; omega) | (right; omega)) : Upd Non w w7)
  have hbl7 := hB7.blk.lt
  clear hB7 U7
  rw [show (q1.ak 3).enc = (AK.of 1).enc from rfl]
  go_wp2_with (refine wpList_store_row rfl 55 _ _ rfl w7.heap.size (AK.of 1).enc rfl rfl 55 AK.no.enc (heap_alloc_new w7 _) (by kernel_rfl) rfl (AK.enc_one _) ?_; rw [World.setRow_alloc_new])
  have hB8 : QBlk (w7.alloc (.cells (AK.of 1).enc 55)) b q2 := QBlk.upd (S := Non) (by ((with_reducible repeat' first | exact Upd.refl _ _ | apply Upd.drew | apply Upd.drewN | apply Upd.alloc | refine Upd.setCell ?_ ?_) <;> first | (intro _ _ h; exact h) | (intro _ _ h; exact h.elim) | (intro i h1 h2; exfalso; (try simp only at h2); omega) | (left; rfl) | (right; dsimp only; omega) | (right; omega))) HB7.out id
  have HB8 := Lib.hid hB8
  have hU8 : Upd Non w (w7.alloc (.cells (AK.of 1).enc 55)) := by
    have h := HU7.out
    ((with_reducible repeat' first | exact Upd.refl _ _ | apply Upd.drew | apply Upd.drewN | apply Upd.alloc | refine Upd.setCell ?_ ?_ | refine Upd.call h ?_ ?_) <;> first | (intro _ _ h; exact h) | (intro _ _ h; exact h.elim) | (intro i h1 h2; exfalso; (try simp only at h2); omega) | (left; rfl) | (right; dsimp only; omega) | (right; omega))
  have HU8 := Lib.hid hU8
  obtain ⟨b5, hb5⟩ : ∃ x, x = w7.heap.size := ⟨_, rfl⟩
  have HX8 := Lib.hid (Blk.newAt (w := w7) (c := (AK.of 1).enc) (t := 55) hb5)
  rw [← hb5]
  have hbb5 : b5 ≠ b := by omega
  clear hB8 hU8 hb5 HB7 hbl7
  refine (state3 q2 b 2 rfl _ HB8.out).mono ?_
  rintro e w8 ⟨rfl, rfl⟩
  go_upto_region 7 with fail
  go_cut [8] (fun s8 wx => s8 = .int .i64 0 ∧ HQ w wx b b5)
  case first =>
    go_wp2_with fail
    refine (back3_ok q2 b rfl _ HB8.out).mono ?_
    rintro e w9 ⟨rfl, hB9, U9⟩
    have HB9 := Lib.hid (show QBlk w9 b q3 from hB9)
    have HX9 := Lib.hid (Blk.upd U9 HX8.out hbb5)
    have HU9 := Lib.hid (by have h := HU7.out; ((with_reducible repeat' first | exact Upd.refl _ _ | apply Upd.drew | apply Upd.drewN | apply Upd.alloc | refine Upd.setCell ?_ ?_ | refine Upd.call U9 ?_ ?_ | refine Upd.call h ?_ ?_) <;> first | (intro _ _ h; exact h) | (intro _ _ h; exact h.elim) | (intro i h1 h2; exfalso; (try simp only at h2); omega) | (left; rfl) | (right; dsimp only; omega) | (right; omega)) : Upd Non w w9)
    clear hB9 U9 HB8 HU8 HU7 HX8
    go_wp2_with fail
    go_meet
    exact ⟨rfl, HB9.out, HX9.out, HU9.out⟩
  case rest =>
    obtain ⟨rfl, hq9⟩ := hcut
    have HQ9 := Lib.hid hq9
    clear hq9 HB8 HU8 HX8 HU7
    clear HB1 HU1 HB2 HU2 HB3 HU3 HB4 HU4 HB5 HU5 HB6 HU6
    have hq1 : ∀ w : World, (binOp .eql 55 (.agg (AK.of 1).enc) (.agg (AK.of 1).enc)).run Try.prog w = .ok (.bool true) w := ask_eq (AK.of 1)
    go_wp2_with fail
    refine wp_region_run [0, 1, 2, 3, 4, 5, 6, 7, 8, 9, 10, 11, 12, 13] 18 (by kernel_rfl) rfl (by kernel_rfl) (by kernel_rfl) (fun _ _ d _ _ h => by cases d <;> exact h) (by repeat' first | exact Runs.nil | apply Runs.cons | exact At.head _ _ | apply At.tail) ?_
    go_wp2_with fail
    have hd9 : Blk wc.drew b5 (AK.of 1).enc 55 := Blk.drew HQ9.out.2.1
    have HD9 := Lib.hid hd9
    clear hd9
    refine Left.fork (f := 17) [14, 15] (by kernel_rfl) (by simp) rfl ?_
    refine Arms.arm [15, 16, 17, 18, 19, 20, 21, 22, 23, 24, 25, 26, 27, 28, 29, 30, 31] 0 rfl (by kernel_rfl) (by kernel_rfl) (fun _ _ d _ _ h => by cases d <;> exact h) (by repeat' first | exact Runs.nil | apply Runs.cons | exact At.head _ _ | apply At.tail) ?_ (Arms.arm [14, 16, 17, 18, 19, 20, 21, 22, 23, 24, 25, 26, 27, 28, 29, 30, 31] 0 rfl (by kernel_rfl) (by kernel_rfl) (fun _ _ d _ _ h => by cases d <;> exact h) (by repeat' first | exact Runs.nil | apply Runs.cons | exact At.head _ _ | apply At.tail) ?_ Arms.none)
    · go_wp2_with (refine wpList_load_rowG (by rfl) 55 _ rfl b5 rfl 55 _ (0, 0) _ HD9.out Try.underlying55 rfl (by kernel_rfl) ?_)
      refine (ask_1 _).mono ?_
      rintro e w10 ⟨rfl, U10⟩
      have HR := Lib.hid (HQ.upd (Upd.call U10 (Upd.refl _ _).drew fun _ _ h => h) HQ9.out)
      clear U10
      go_wp2_with fail
      refine (state3 q3 b 0 rfl _ HR.out.1).mono ?_
      rintro e w11 ⟨rfl, rfl⟩
      go_wp2_with fail
      refine Left.done (by kernel_rfl) ?_
      go_wp2_with fail
      go_ret
      exact ⟨rfl, HR.out.2.2⟩
    · go_wp2_with fail
      refine (ask_1 _).mono ?_
      rintro e w10 ⟨rfl, U10⟩
      have HR := Lib.hid (HQ.upd (Upd.call U10 (Upd.refl _ _).drew fun _ _ h => h) HQ9.out)
      clear U10
      go_wp2_with (refine wpList_load_rowG (by rfl) 55 _ rfl b5 rfl 55 _ (0, 0) _ HR.out.2.1 Try.underlying55 rfl (by kernel_rfl) ?_)
      refine (state3 q3 b 0 rfl _ HR.out.1).mono ?_
      rintro e w11 ⟨rfl, rfl⟩
      go_wp2_with fail
      refine Left.done (by kernel_rfl) ?_
      go_wp2_with fail
      go_ret
      exact ⟨rfl, HR.out.2.2⟩
end Go.Proofs.Ytmblplhehbdocaa
