/- TimerWrites: the law's walk. Conditions: the arguments are words. -/
import Derived.Test.YtmblplhehbdocaaTimerRef
namespace Go.Proofs.Ytmblplhehbdocaa
open Go.RowKit

theorem or_1 {k : Int} (h : 0 ≤ k ∧ k < 8) (h0 : ¬ k % 2 = 0) : bits .or .u32 k 1 = k ∧ bits .or .u32 (k - 1) 1 = k := by
  rcases lt8 h with rfl | rfl | rfl | rfl | rfl | rfl | rfl | rfl
  all_goals first | exact absurd rfl h0 | exact ⟨by decide, by decide⟩ | omega
/-- What the law asks of a tick. -/
theorem tick_law {s : TS} (hs : s.ok) : s.h ≤ s.tick.h ∧ s.tick.l = s.l ∧ bits .or .u32 s.tick.k 1 = bits .or .u32 s.k 1 ∧ (s.k % 2 = 0 → s.tick = s) := by
  obtain ⟨c, l, k, h⟩ := s
  have hk := hs.k
  have hh := hs.h
  dsimp only at hk hh
  by_cases h0 : k % 2 = 0
  · rw [tick_even h0]
    exact ⟨by dsimp only; omega, rfl, rfl, fun _ => rfl⟩
  · obtain ⟨o1, o2⟩ := or_1 hk h0
    by_cases h1 : (c + 1) % 4294967296 = l
    · by_cases h4 : k / 4 = 1
      · rw [tick_again h0 h1 rfl h4 rfl]
        refine ⟨?_, rfl, rfl, fun h => absurd h h0⟩
        dsimp only; split <;> omega
      · rw [tick_once h0 h1 rfl h4 rfl]
        refine ⟨?_, rfl, ?_, fun h => absurd h h0⟩
        · dsimp only; split <;> omega
        · dsimp only; rw [o1, o2]
    · rw [tick_on h0 rfl h1]
      exact ⟨by dsimp only; omega, rfl, rfl, fun h => absurd h h0⟩

def want (v : Int) (r : Int) : Int := if r = 0 then v else if r = 1 then v else if r = 2 then v % 8 else 0
theorem read_write (s : TS) (r v : Int) (t : Int) (ht : t = 0 ∨ t = 1 ∨ t = 2 ∨ t = 3) : (s.write r v).read t = if t = r then want v t else s.read t := by
  by_cases h : t = r
  · subst h
    rw [if_pos rfl]
    rcases ht with rfl | rfl | rfl | rfl <;> rfl
  · rw [if_neg h]
    unfold TS.write
    rcases ht with rfl | rfl | rfl | rfl
    · rw [if_neg (fun q => h q.symm)]
      split
      · rfl
      split
      · rfl
      split <;> rfl
    · split
      · rfl
      rw [if_neg (fun q => h q.symm)]
      split
      · rfl
      split <;> rfl
    · split
      · rfl
      split
      · rfl
      rw [if_neg (fun q => h q.symm)]
      split <;> rfl
    · split
      · rfl
      split
      · rfl
      split
      · rfl
      rw [if_neg (fun q => h q.symm)]

set_option maxRecDepth 100000 in
set_option maxHeartbeats 8000000 in
theorem writes_law (c l k h r v : Int) (hc : 0 ≤ c ∧ c ≤ 4294967295) (hl : 0 ≤ l ∧ l ≤ 4294967295) (hk : 0 ≤ k ∧ k ≤ 4294967295) (hh : 0 ≤ h ∧ h ≤ 4294967295) (hv : 0 ≤ v ∧ v ≤ 4294967295) (w : World) :
    Calls Try.prog 8 #[.agg #[.int .u32 c, .int .u32 l, .int .u32 k, .int .u32 h], .int .i64 r, .int .u32 v] w fun e w' => e = .returned (.bool true) ∧ Upd Non w w' := by
  have HK := Lib.hid hk
  have HV := Lib.hid hv
  have hok : TS.ok ⟨c, l, k % 8, h⟩ := ⟨hc, hl, by dsimp only; omega, hh⟩
  have hm : v.tmod 8 = v % 8 := Int.tmod_eq_emod_of_nonneg hv.1
  have hm2 : (v % 8) % 4294967296 = v % 8 := by omega
  have HOK := Lib.hid hok
  clear hc hl hk hh hv hok
  go_enter Try.func8, Try.ntmps8
  go_wp2_with fail
  refine (awake_spec _).mono ?_
  rintro e w1 ⟨rfl, U1⟩
  have x0 : w1.cell? ⟨w.heap.size, 0, none⟩ = some (.int .u32 c) := (show Blk w1 w.heap.size #[.int .u32 c, .int .u32 l, .int .u32 k, .int .u32 h] 28 from Blk.upd U1 (Blk.new w _ _) id).cell 0 rfl
  have x1 : w1.cell? ⟨w.heap.size, 1, none⟩ = some (.int .u32 l) := (show Blk w1 w.heap.size #[.int .u32 c, .int .u32 l, .int .u32 k, .int .u32 h] 28 from Blk.upd U1 (Blk.new w _ _) id).cell 1 rfl
  have x2 : w1.cell? ⟨w.heap.size, 2, none⟩ = some (.int .u32 k) := (show Blk w1 w.heap.size #[.int .u32 c, .int .u32 l, .int .u32 k, .int .u32 h] 28 from Blk.upd U1 (Blk.new w _ _) id).cell 2 rfl
  have x3 : w1.cell? ⟨w.heap.size, 3, none⟩ = some (.int .u32 h) := (show Blk w1 w.heap.size #[.int .u32 c, .int .u32 l, .int .u32 k, .int .u32 h] 28 from Blk.upd U1 (Blk.new w _ _) id).cell 3 rfl
  have HU1 := Lib.hid (by ((with_reducible repeat' first | exact Upd.refl _ _ | apply Upd.drew | apply Upd.drewN | apply Upd.alloc | refine Upd.setCell ?_ ?_ | refine Upd.call U1 ?_ ?_) <;> first | (intro _ _ h; exact h) | (intro _ _ h; exact h.elim) | (intro i h1 h2; exfalso; (try simp only at h2); omega) | (left; rfl) | (right; dsimp only; omega) | (right; omega)) : Upd Non w w1)
  clear U1
  go_wp2_with fail
  refine (of_spec c l k h HK.out _).mono ?_
  rintro e w2 ⟨b, rfl, hb, hB, U2⟩
  have hbw : w.heap.size ≤ b := Nat.le_trans HU1.out.size hb
  have HB2 := Lib.hid hB
  have HU2 := Lib.hid (by have h := HU1.out; ((with_reducible repeat' first | exact Upd.refl _ _ | apply Upd.drew | apply Upd.drewN | apply Upd.alloc | refine Upd.setCell ?_ ?_ | refine Upd.call U2 ?_ ?_ | refine Upd.call h ?_ ?_) <;> first | (intro _ _ h; exact h) | (intro _ _ h; exact h.elim) | (intro i h1 h2; exfalso; (try simp only at h2); omega) | (left; rfl) | (right; dsimp only; omega) | (right; omega)) : Upd Non w w2)
  clear hB U2 hb HU1 x0 x1 x2 x3
  obtain ⟨s, hs⟩ : ∃ s : TS, s = ⟨c, l, k % 8, h⟩ := ⟨_, rfl⟩
  rw [← hs] at HB2 HOK
  clear hs
  go_wp2_with fail
  refine (state_spec b _ _ HB2.out).mono ?_
  rintro e w3 ⟨rfl, U3⟩
  have HB3 := Lib.hid (TBlk.upd U3 HB2.out id)
  have HU3 := Lib.hid (by have h := HU2.out; ((with_reducible repeat' first | exact Upd.refl _ _ | apply Upd.drew | apply Upd.drewN | apply Upd.alloc | refine Upd.setCell ?_ ?_ | refine Upd.call U3 ?_ ?_ | refine Upd.call h ?_ ?_) <;> first | (intro _ _ h; exact h) | (intro _ _ h; exact h.elim) | (intro i h1 h2; exfalso; (try simp only at h2); omega) | (left; rfl) | (right; dsimp only; omega) | (right; omega)) : Upd Non w w3)
  have hbl := HB3.out.blk.lt
  clear U3 HB2 HU2
  unfold TS.vals
  go_wp2_with fail
  obtain ⟨bw, hbw3⟩ : ∃ x, x = w3.heap.size := ⟨_, rfl⟩
  rw [← hbw3]
  have hX : Blk (w3.alloc (.cells s.vals 28)) bw s.vals 28 := Blk.newAt hbw3
  have hbb : b ≠ bw := by omega
  have hww : w.heap.size ≤ bw := by have := HU3.out.size; omega
  have HX := Lib.hid hX
  have HB3' := Lib.hid (TBlk.upd (S := Non) (by ((with_reducible repeat' first | exact Upd.refl _ _ | apply Upd.drew | apply Upd.drewN | apply Upd.alloc | refine Upd.setCell ?_ ?_) <;> first | (intro _ _ h; exact h) | (intro _ _ h; exact h.elim) | (intro i h1 h2; exfalso; (try simp only at h2); omega) | (left; rfl) | (right; dsimp only; omega) | (right; omega))) HB3.out id : TBlk (w3.alloc (.cells s.vals 28)) b s)
  have HU3' := Lib.hid (by have h := HU3.out; ((with_reducible repeat' first | exact Upd.refl _ _ | apply Upd.drew | apply Upd.drewN | apply Upd.alloc | refine Upd.setCell ?_ ?_ | refine Upd.call h ?_ ?_) <;> first | (intro _ _ h; exact h) | (intro _ _ h; exact h.elim) | (intro i h1 h2; exfalso; (try simp only at h2); omega) | (left; rfl) | (right; dsimp only; omega) | (right; omega)) : Upd Non w (w3.alloc (.cells s.vals 28)))
  clear hbw3 hX HB3
  refine (write_spec b s r v HV.out _ HB3'.out).mono ?_
  rintro e w4 ⟨rfl, hB4, U4⟩
  have HB4 := Lib.hid hB4
  have HX4 := Lib.hid (Blk.upd U4 HX.out (fun h => hbb h.symm))
  have HU4 := Lib.hid (by have h := HU3.out; ((with_reducible repeat' first | exact Upd.refl _ _ | apply Upd.drew | apply Upd.drewN | apply Upd.alloc | refine Upd.setCell ?_ ?_ | refine Upd.call U4 ?_ ?_ | refine Upd.call h ?_ ?_) <;> first | (intro _ _ h; exact h) | (intro _ _ h; exact h.elim) | (intro i h1 h2; exfalso; (try simp only at h2); omega) | (left; rfl) | (right; dsimp only; omega) | (right; omega)) : Upd Non w w4)
  clear hB4 U4 HX HB3' HU3' HU3 hbl
  go_wp2_with fail
  go_loopw [9] (fun i wr => ∃ t : Nat, t ≤ 4 ∧ i = .int .i64 t ∧ TBlk wr b (s.write r v) ∧ Blk wr bw s.vals 28 ∧ Upd Non w wr) (fun i _ => 4 - (intOf i).toNat)
  case atStart => exact ⟨0, by omega, rfl, HB4.out, HX4.out, HU4.out⟩
  case round =>
    clear HB4 HX4 HU4
    obtain ⟨t, ht, rfl, hB, hX, hU⟩ := hrel
    have HB := Lib.hid hB
    have HX := Lib.hid hX
    have HU := Lib.hid hU
    have x0 : wr.cell? ⟨bw, 0, none⟩ = some (.int .u32 s.c) := hX.cell 0 rfl
    have x1 : wr.cell? ⟨bw, 1, none⟩ = some (.int .u32 s.l) := hX.cell 1 rfl
    have x2 : wr.cell? ⟨bw, 2, none⟩ = some (.int .u32 s.k) := hX.cell 2 rfl
    have x3 : wr.cell? ⟨bw, 3, none⟩ = some (.int .u32 s.h) := hX.cell 3 rfl
    clear hB hX hU
    by_cases hlt : t < 4
    case neg =>
      have k1 : ¬ (t : Int) < 4 := by omega
      obtain ⟨s1, hs1⟩ : ∃ x, x = s.write r v := ⟨_, rfl⟩
      have hok1 : s1.ok := hs1 ▸ TS.write_ok HOK.out r HV.out
      rw [← hs1] at HB
      clear hs1
      go_wp2_with fail
      refine (state_spec b _ _ HB.out).mono ?_
      rintro e w5 ⟨rfl, U5⟩
      have HB5 := Lib.hid (TBlk.upd U5 HB.out id)
      have HU5 := Lib.hid (by have h := HU.out; ((with_reducible repeat' first | exact Upd.refl _ _ | apply Upd.drew | apply Upd.drewN | apply Upd.alloc | refine Upd.setCell ?_ ?_ | refine Upd.call U5 ?_ ?_ | refine Upd.call h ?_ ?_) <;> first | (intro _ _ h; exact h) | (intro _ _ h; exact h.elim) | (intro i h1 h2; exfalso; (try simp only at h2); omega) | (left; rfl) | (right; dsimp only; omega) | (right; omega)) : Upd Non w w5)
      clear U5 HB HU x0 x1 x2 x3 HX
      have HOK1 := Lib.hid hok1
      clear hok1
      unfold TS.vals
      go_wp2_with fail
      refine (tick_spec b s1 HOK1.out _ (TBlk.upd (S := Non) (by ((with_reducible repeat' first | exact Upd.refl _ _ | apply Upd.drew | apply Upd.drewN | apply Upd.alloc | refine Upd.setCell ?_ ?_) <;> first | (intro _ _ h; exact h) | (intro _ _ h; exact h.elim) | (intro i h1 h2; exfalso; (try simp only at h2); omega) | (left; rfl) | (right; dsimp only; omega) | (right; omega))) HB5.out id)).mono ?_
      rintro e w6 ⟨rfl, hB6, U6⟩
      obtain ⟨b1, hb1⟩ : ∃ x, x = w5.heap.size := ⟨_, rfl⟩
      have hbl := HB5.out.blk.lt
      have hX6 : Blk w6 b1 s1.vals 28 := Blk.upd U6 (Blk.newAt hb1) (fun h => by have h' : b1 = b := h; omega)
      rw [← hb1]
      have HB6 := Lib.hid hB6
      have HX6 := Lib.hid hX6
      have HU6 := Lib.hid (by have h := HU5.out; ((with_reducible repeat' first | exact Upd.refl _ _ | apply Upd.drew | apply Upd.drewN | apply Upd.alloc | refine Upd.setCell ?_ ?_ | refine Upd.call U6 ?_ ?_ | refine Upd.call h ?_ ?_) <;> first | (intro _ _ h; exact h) | (intro _ _ h; exact h.elim) | (intro i h1 h2; exfalso; (try simp only at h2); omega) | (left; rfl) | (right; dsimp only; omega) | (right; omega)) : Upd Non w w6)
      clear hB6 hX6 U6 HB5 HU5 hb1
      go_wp2_with fail
      refine (state_spec b _ _ HB6.out).mono ?_
      rintro e w7 ⟨rfl, U7⟩
      have HX7 := Lib.hid (Blk.upd U7 HX6.out id)
      have HU7 := Lib.hid (by have h := HU6.out; ((with_reducible repeat' first | exact Upd.refl _ _ | apply Upd.drew | apply Upd.drewN | apply Upd.alloc | refine Upd.setCell ?_ ?_ | refine Upd.call U7 ?_ ?_ | refine Upd.call h ?_ ?_) <;> first | (intro _ _ h; exact h) | (intro _ _ h; exact h.elim) | (intro i h1 h2; exfalso; (try simp only at h2); omega) | (left; rfl) | (right; dsimp only; omega) | (right; omega)) : Upd Non w w7)
      clear U7 HB6 HX6 HU6
      have hX7 := HX7.out
      have x0 : w7.cell? ⟨b1, 0, none⟩ = some (.int .u32 s1.c) := hX7.cell 0 rfl
      have x1 : w7.cell? ⟨b1, 1, none⟩ = some (.int .u32 s1.l) := hX7.cell 1 rfl
      have x2 : w7.cell? ⟨b1, 2, none⟩ = some (.int .u32 s1.k) := hX7.cell 2 rfl
      have x3 : w7.cell? ⟨b1, 3, none⟩ = some (.int .u32 s1.h) := hX7.cell 3 rfl
      have hbl1 := hX7.lt
      obtain ⟨q1, q2, q3, q4⟩ := tick_law HOK1.out
      have hk8 := HOK1.out.k
      clear hX7
      unfold TS.vals
      by_cases h0 : s1.k % 2 = 0
      · have hp : s1.k.tmod 2 = 0 := by rw [Int.tmod_eq_emod_of_nonneg hk8.1]; exact h0
        have e1 := q4 h0
        rw [e1] at *
        clear q1 q2 q3 q4
        go_wp2_with fail
        go_ret
        exact ⟨rfl, by have h := HU7.out; ((with_reducible repeat' first | exact Upd.refl _ _ | apply Upd.drew | apply Upd.drewN | apply Upd.alloc | refine Upd.setCell ?_ ?_ | refine Upd.call h ?_ ?_) <;> first | (intro _ _ h; exact h) | (intro _ _ h; exact h.elim) | (intro i h1 h2; exfalso; (try simp only at h2); omega) | (left; rfl) | (right; dsimp only; omega) | (right; omega))⟩
      · have hp : s1.k.tmod 2 = 1 := by rw [Int.tmod_eq_emod_of_nonneg hk8.1]; omega
        generalize s1.tick = s2 at *
        clear q4
        go_wp2_with fail
        go_ret
        exact ⟨rfl, by have h := HU7.out; ((with_reducible repeat' first | exact Upd.refl _ _ | apply Upd.drew | apply Upd.drewN | apply Upd.alloc | refine Upd.setCell ?_ ?_ | refine Upd.call h ?_ ?_) <;> first | (intro _ _ h; exact h) | (intro _ _ h; exact h.elim) | (intro i h1 h2; exfalso; (try simp only at h2); omega) | (left; rfl) | (right; dsimp only; omega) | (right; omega))⟩
    have k1 : (t : Int) < 4 := by omega
    rcases (show t = 0 ∨ t = 1 ∨ t = 2 ∨ t = 3 by omega) with rfl | rfl | rfl | rfl
    · by_cases hq : r = 0
      · subst hq
        have HR := Lib.hid (show (s.write 0 v).read 0 = v from rfl)
        go_wp2_with fail
        refine (read_spec b _ _ _ (TBlk.upd (S := Non) (by ((with_reducible repeat' first | exact Upd.refl _ _ | apply Upd.drew | apply Upd.drewN | apply Upd.alloc | refine Upd.setCell ?_ ?_) <;> first | (intro _ _ h; exact h) | (intro _ _ h; exact h.elim) | (intro i h1 h2; exfalso; (try simp only at h2); omega) | (left; rfl) | (right; dsimp only; omega) | (right; omega))) HB.out id)).mono ?_
        rintro e w5 ⟨rfl, U5⟩
        have HU5 := Lib.hid (by ((with_reducible repeat' first | exact Upd.refl _ _ | apply Upd.drew | apply Upd.drewN | apply Upd.alloc | refine Upd.setCell ?_ ?_ | refine Upd.call U5 ?_ ?_) <;> first | (intro _ _ h; exact h) | (intro _ _ h; exact h.elim) | (intro i h1 h2; exfalso; (try simp only at h2); omega) | (left; rfl) | (right; dsimp only; omega) | (right; omega)) : Upd Non wr w5)
        clear U5
        rw [HR.out]
        go_wp2_with fail
        refine (read_spec b _ _ _ (TBlk.upd HU5.out HB.out id)).mono ?_
        rintro e w6 ⟨rfl, U6⟩
        have HU6 := Lib.hid (by have h := HU5.out; ((with_reducible repeat' first | exact Upd.refl _ _ | apply Upd.drew | apply Upd.drewN | apply Upd.alloc | refine Upd.setCell ?_ ?_ | refine Upd.call U6 ?_ ?_ | refine Upd.call h ?_ ?_) <;> first | (intro _ _ h; exact h) | (intro _ _ h; exact h.elim) | (intro i h1 h2; exfalso; (try simp only at h2); omega) | (left; rfl) | (right; dsimp only; omega) | (right; omega)) : Upd Non wr w6)
        have HW6 := Lib.hid (by have h := HU5.out; have h2 := HU.out; ((with_reducible repeat' first | exact Upd.refl _ _ | apply Upd.drew | apply Upd.drewN | apply Upd.alloc | refine Upd.setCell ?_ ?_ | refine Upd.call U6 ?_ ?_ | refine Upd.call h ?_ ?_ | refine Upd.call h2 ?_ ?_) <;> first | (intro _ _ h; exact h) | (intro _ _ h; exact h.elim) | (intro i h1 h2; exfalso; (try simp only at h2); omega) | (left; rfl) | (right; dsimp only; omega) | (right; omega)) : Upd Non w w6)
        clear U6
        rw [HR.out]
        go_wp2_with fail
        go_roundw
        case rel => exact ⟨1, by omega, by go_num, TBlk.upd HU6.out HB.out id, Blk.upd HU6.out HX.out id, HW6.out⟩
        case measure => simp [intOf]
      · have HR := Lib.hid (show (s.write r v).read 0 = s.c from (read_write s r v 0 (by omega)).trans (if_neg (fun e => hq e.symm)))
        have hq' : ¬ 0 = r := fun e => hq e.symm
        go_wp2_with fail
        refine (read_spec b _ _ _ (TBlk.upd (S := Non) (by ((with_reducible repeat' first | exact Upd.refl _ _ | apply Upd.drew | apply Upd.drewN | apply Upd.alloc | refine Upd.setCell ?_ ?_) <;> first | (intro _ _ h; exact h) | (intro _ _ h; exact h.elim) | (intro i h1 h2; exfalso; (try simp only at h2); omega) | (left; rfl) | (right; dsimp only; omega) | (right; omega))) HB.out id)).mono ?_
        rintro e w5 ⟨rfl, U5⟩
        have HU5 := Lib.hid (by ((with_reducible repeat' first | exact Upd.refl _ _ | apply Upd.drew | apply Upd.drewN | apply Upd.alloc | refine Upd.setCell ?_ ?_ | refine Upd.call U5 ?_ ?_) <;> first | (intro _ _ h; exact h) | (intro _ _ h; exact h.elim) | (intro i h1 h2; exfalso; (try simp only at h2); omega) | (left; rfl) | (right; dsimp only; omega) | (right; omega)) : Upd Non wr w5)
        clear U5
        rw [HR.out]
        go_wp2_with fail
        refine (read_spec b _ _ _ (TBlk.upd HU5.out HB.out id)).mono ?_
        rintro e w6 ⟨rfl, U6⟩
        have HU6 := Lib.hid (by have h := HU5.out; ((with_reducible repeat' first | exact Upd.refl _ _ | apply Upd.drew | apply Upd.drewN | apply Upd.alloc | refine Upd.setCell ?_ ?_ | refine Upd.call U6 ?_ ?_ | refine Upd.call h ?_ ?_) <;> first | (intro _ _ h; exact h) | (intro _ _ h; exact h.elim) | (intro i h1 h2; exfalso; (try simp only at h2); omega) | (left; rfl) | (right; dsimp only; omega) | (right; omega)) : Upd Non wr w6)
        have HW6 := Lib.hid (by have h := HU5.out; have h2 := HU.out; ((with_reducible repeat' first | exact Upd.refl _ _ | apply Upd.drew | apply Upd.drewN | apply Upd.alloc | refine Upd.setCell ?_ ?_ | refine Upd.call U6 ?_ ?_ | refine Upd.call h ?_ ?_ | refine Upd.call h2 ?_ ?_) <;> first | (intro _ _ h; exact h) | (intro _ _ h; exact h.elim) | (intro i h1 h2; exfalso; (try simp only at h2); omega) | (left; rfl) | (right; dsimp only; omega) | (right; omega)) : Upd Non w w6)
        clear U6
        rw [HR.out]
        go_wp2_with fail
        go_roundw
        case rel => exact ⟨1, by omega, by go_num, TBlk.upd HU6.out HB.out id, Blk.upd HU6.out HX.out id, HW6.out⟩
        case measure => simp [intOf]
    · by_cases hq : r = 1
      · subst hq
        have HR := Lib.hid (show (s.write 1 v).read 1 = v from rfl)
        go_wp2_with fail
        refine (read_spec b _ _ _ (TBlk.upd (S := Non) (by ((with_reducible repeat' first | exact Upd.refl _ _ | apply Upd.drew | apply Upd.drewN | apply Upd.alloc | refine Upd.setCell ?_ ?_) <;> first | (intro _ _ h; exact h) | (intro _ _ h; exact h.elim) | (intro i h1 h2; exfalso; (try simp only at h2); omega) | (left; rfl) | (right; dsimp only; omega) | (right; omega))) HB.out id)).mono ?_
        rintro e w5 ⟨rfl, U5⟩
        have HU5 := Lib.hid (by ((with_reducible repeat' first | exact Upd.refl _ _ | apply Upd.drew | apply Upd.drewN | apply Upd.alloc | refine Upd.setCell ?_ ?_ | refine Upd.call U5 ?_ ?_) <;> first | (intro _ _ h; exact h) | (intro _ _ h; exact h.elim) | (intro i h1 h2; exfalso; (try simp only at h2); omega) | (left; rfl) | (right; dsimp only; omega) | (right; omega)) : Upd Non wr w5)
        clear U5
        rw [HR.out]
        go_wp2_with fail
        refine (read_spec b _ _ _ (TBlk.upd HU5.out HB.out id)).mono ?_
        rintro e w6 ⟨rfl, U6⟩
        have HU6 := Lib.hid (by have h := HU5.out; ((with_reducible repeat' first | exact Upd.refl _ _ | apply Upd.drew | apply Upd.drewN | apply Upd.alloc | refine Upd.setCell ?_ ?_ | refine Upd.call U6 ?_ ?_ | refine Upd.call h ?_ ?_) <;> first | (intro _ _ h; exact h) | (intro _ _ h; exact h.elim) | (intro i h1 h2; exfalso; (try simp only at h2); omega) | (left; rfl) | (right; dsimp only; omega) | (right; omega)) : Upd Non wr w6)
        have HW6 := Lib.hid (by have h := HU5.out; have h2 := HU.out; ((with_reducible repeat' first | exact Upd.refl _ _ | apply Upd.drew | apply Upd.drewN | apply Upd.alloc | refine Upd.setCell ?_ ?_ | refine Upd.call U6 ?_ ?_ | refine Upd.call h ?_ ?_ | refine Upd.call h2 ?_ ?_) <;> first | (intro _ _ h; exact h) | (intro _ _ h; exact h.elim) | (intro i h1 h2; exfalso; (try simp only at h2); omega) | (left; rfl) | (right; dsimp only; omega) | (right; omega)) : Upd Non w w6)
        clear U6
        rw [HR.out]
        go_wp2_with fail
        go_roundw
        case rel => exact ⟨2, by omega, by go_num, TBlk.upd HU6.out HB.out id, Blk.upd HU6.out HX.out id, HW6.out⟩
        case measure => simp [intOf]
      · have HR := Lib.hid (show (s.write r v).read 1 = s.l from (read_write s r v 1 (by omega)).trans (if_neg (fun e => hq e.symm)))
        have hq' : ¬ 1 = r := fun e => hq e.symm
        go_wp2_with fail
        refine (read_spec b _ _ _ (TBlk.upd (S := Non) (by ((with_reducible repeat' first | exact Upd.refl _ _ | apply Upd.drew | apply Upd.drewN | apply Upd.alloc | refine Upd.setCell ?_ ?_) <;> first | (intro _ _ h; exact h) | (intro _ _ h; exact h.elim) | (intro i h1 h2; exfalso; (try simp only at h2); omega) | (left; rfl) | (right; dsimp only; omega) | (right; omega))) HB.out id)).mono ?_
        rintro e w5 ⟨rfl, U5⟩
        have HU5 := Lib.hid (by ((with_reducible repeat' first | exact Upd.refl _ _ | apply Upd.drew | apply Upd.drewN | apply Upd.alloc | refine Upd.setCell ?_ ?_ | refine Upd.call U5 ?_ ?_) <;> first | (intro _ _ h; exact h) | (intro _ _ h; exact h.elim) | (intro i h1 h2; exfalso; (try simp only at h2); omega) | (left; rfl) | (right; dsimp only; omega) | (right; omega)) : Upd Non wr w5)
        clear U5
        rw [HR.out]
        go_wp2_with fail
        refine (read_spec b _ _ _ (TBlk.upd HU5.out HB.out id)).mono ?_
        rintro e w6 ⟨rfl, U6⟩
        have HU6 := Lib.hid (by have h := HU5.out; ((with_reducible repeat' first | exact Upd.refl _ _ | apply Upd.drew | apply Upd.drewN | apply Upd.alloc | refine Upd.setCell ?_ ?_ | refine Upd.call U6 ?_ ?_ | refine Upd.call h ?_ ?_) <;> first | (intro _ _ h; exact h) | (intro _ _ h; exact h.elim) | (intro i h1 h2; exfalso; (try simp only at h2); omega) | (left; rfl) | (right; dsimp only; omega) | (right; omega)) : Upd Non wr w6)
        have HW6 := Lib.hid (by have h := HU5.out; have h2 := HU.out; ((with_reducible repeat' first | exact Upd.refl _ _ | apply Upd.drew | apply Upd.drewN | apply Upd.alloc | refine Upd.setCell ?_ ?_ | refine Upd.call U6 ?_ ?_ | refine Upd.call h ?_ ?_ | refine Upd.call h2 ?_ ?_) <;> first | (intro _ _ h; exact h) | (intro _ _ h; exact h.elim) | (intro i h1 h2; exfalso; (try simp only at h2); omega) | (left; rfl) | (right; dsimp only; omega) | (right; omega)) : Upd Non w w6)
        clear U6
        rw [HR.out]
        go_wp2_with fail
        go_roundw
        case rel => exact ⟨2, by omega, by go_num, TBlk.upd HU6.out HB.out id, Blk.upd HU6.out HX.out id, HW6.out⟩
        case measure => simp [intOf]
    · by_cases hq : r = 2
      · subst hq
        have HR := Lib.hid (show (s.write 2 v).read 2 = v % 8 from rfl)
        go_wp2_with fail
        refine (read_spec b _ _ _ (TBlk.upd (S := Non) (by ((with_reducible repeat' first | exact Upd.refl _ _ | apply Upd.drew | apply Upd.drewN | apply Upd.alloc | refine Upd.setCell ?_ ?_) <;> first | (intro _ _ h; exact h) | (intro _ _ h; exact h.elim) | (intro i h1 h2; exfalso; (try simp only at h2); omega) | (left; rfl) | (right; dsimp only; omega) | (right; omega))) HB.out id)).mono ?_
        rintro e w5 ⟨rfl, U5⟩
        have HU5 := Lib.hid (by ((with_reducible repeat' first | exact Upd.refl _ _ | apply Upd.drew | apply Upd.drewN | apply Upd.alloc | refine Upd.setCell ?_ ?_ | refine Upd.call U5 ?_ ?_) <;> first | (intro _ _ h; exact h) | (intro _ _ h; exact h.elim) | (intro i h1 h2; exfalso; (try simp only at h2); omega) | (left; rfl) | (right; dsimp only; omega) | (right; omega)) : Upd Non wr w5)
        clear U5
        rw [HR.out]
        go_wp2_with fail
        refine (read_spec b _ _ _ (TBlk.upd HU5.out HB.out id)).mono ?_
        rintro e w6 ⟨rfl, U6⟩
        have HU6 := Lib.hid (by have h := HU5.out; ((with_reducible repeat' first | exact Upd.refl _ _ | apply Upd.drew | apply Upd.drewN | apply Upd.alloc | refine Upd.setCell ?_ ?_ | refine Upd.call U6 ?_ ?_ | refine Upd.call h ?_ ?_) <;> first | (intro _ _ h; exact h) | (intro _ _ h; exact h.elim) | (intro i h1 h2; exfalso; (try simp only at h2); omega) | (left; rfl) | (right; dsimp only; omega) | (right; omega)) : Upd Non wr w6)
        have HW6 := Lib.hid (by have h := HU5.out; have h2 := HU.out; ((with_reducible repeat' first | exact Upd.refl _ _ | apply Upd.drew | apply Upd.drewN | apply Upd.alloc | refine Upd.setCell ?_ ?_ | refine Upd.call U6 ?_ ?_ | refine Upd.call h ?_ ?_ | refine Upd.call h2 ?_ ?_) <;> first | (intro _ _ h; exact h) | (intro _ _ h; exact h.elim) | (intro i h1 h2; exfalso; (try simp only at h2); omega) | (left; rfl) | (right; dsimp only; omega) | (right; omega)) : Upd Non w w6)
        clear U6
        rw [HR.out]
        go_wp2_with fail
        go_roundw
        case rel => exact ⟨3, by omega, by go_num, TBlk.upd HU6.out HB.out id, Blk.upd HU6.out HX.out id, HW6.out⟩
        case measure => simp [intOf]
      · have HR := Lib.hid (show (s.write r v).read 2 = s.k from (read_write s r v 2 (by omega)).trans (if_neg (fun e => hq e.symm)))
        have hq' : ¬ 2 = r := fun e => hq e.symm
        go_wp2_with fail
        refine (read_spec b _ _ _ (TBlk.upd (S := Non) (by ((with_reducible repeat' first | exact Upd.refl _ _ | apply Upd.drew | apply Upd.drewN | apply Upd.alloc | refine Upd.setCell ?_ ?_) <;> first | (intro _ _ h; exact h) | (intro _ _ h; exact h.elim) | (intro i h1 h2; exfalso; (try simp only at h2); omega) | (left; rfl) | (right; dsimp only; omega) | (right; omega))) HB.out id)).mono ?_
        rintro e w5 ⟨rfl, U5⟩
        have HU5 := Lib.hid (by ((with_reducible repeat' first | exact Upd.refl _ _ | apply Upd.drew | apply Upd.drewN | apply Upd.alloc | refine Upd.setCell ?_ ?_ | refine Upd.call U5 ?_ ?_) <;> first | (intro _ _ h; exact h) | (intro _ _ h; exact h.elim) | (intro i h1 h2; exfalso; (try simp only at h2); omega) | (left; rfl) | (right; dsimp only; omega) | (right; omega)) : Upd Non wr w5)
        clear U5
        rw [HR.out]
        go_wp2_with fail
        refine (read_spec b _ _ _ (TBlk.upd HU5.out HB.out id)).mono ?_
        rintro e w6 ⟨rfl, U6⟩
        have HU6 := Lib.hid (by have h := HU5.out; ((with_reducible repeat' first | exact Upd.refl _ _ | apply Upd.drew | apply Upd.drewN | apply Upd.alloc | refine Upd.setCell ?_ ?_ | refine Upd.call U6 ?_ ?_ | refine Upd.call h ?_ ?_) <;> first | (intro _ _ h; exact h) | (intro _ _ h; exact h.elim) | (intro i h1 h2; exfalso; (try simp only at h2); omega) | (left; rfl) | (right; dsimp only; omega) | (right; omega)) : Upd Non wr w6)
        have HW6 := Lib.hid (by have h := HU5.out; have h2 := HU.out; ((with_reducible repeat' first | exact Upd.refl _ _ | apply Upd.drew | apply Upd.drewN | apply Upd.alloc | refine Upd.setCell ?_ ?_ | refine Upd.call U6 ?_ ?_ | refine Upd.call h ?_ ?_ | refine Upd.call h2 ?_ ?_) <;> first | (intro _ _ h; exact h) | (intro _ _ h; exact h.elim) | (intro i h1 h2; exfalso; (try simp only at h2); omega) | (left; rfl) | (right; dsimp only; omega) | (right; omega)) : Upd Non w w6)
        clear U6
        rw [HR.out]
        go_wp2_with fail
        go_roundw
        case rel => exact ⟨3, by omega, by go_num, TBlk.upd HU6.out HB.out id, Blk.upd HU6.out HX.out id, HW6.out⟩
        case measure => simp [intOf]
    · by_cases hq : r = 3
      · subst hq
        have HR := Lib.hid (show (s.write 3 v).read 3 = 0 from rfl)
        go_wp2_with fail
        refine (read_spec b _ _ _ (TBlk.upd (S := Non) (by ((with_reducible repeat' first | exact Upd.refl _ _ | apply Upd.drew | apply Upd.drewN | apply Upd.alloc | refine Upd.setCell ?_ ?_) <;> first | (intro _ _ h; exact h) | (intro _ _ h; exact h.elim) | (intro i h1 h2; exfalso; (try simp only at h2); omega) | (left; rfl) | (right; dsimp only; omega) | (right; omega))) HB.out id)).mono ?_
        rintro e w5 ⟨rfl, U5⟩
        have HU5 := Lib.hid (by ((with_reducible repeat' first | exact Upd.refl _ _ | apply Upd.drew | apply Upd.drewN | apply Upd.alloc | refine Upd.setCell ?_ ?_ | refine Upd.call U5 ?_ ?_) <;> first | (intro _ _ h; exact h) | (intro _ _ h; exact h.elim) | (intro i h1 h2; exfalso; (try simp only at h2); omega) | (left; rfl) | (right; dsimp only; omega) | (right; omega)) : Upd Non wr w5)
        clear U5
        rw [HR.out]
        go_wp2_with fail
        refine (read_spec b _ _ _ (TBlk.upd HU5.out HB.out id)).mono ?_
        rintro e w6 ⟨rfl, U6⟩
        have HU6 := Lib.hid (by have h := HU5.out; ((with_reducible repeat' first | exact Upd.refl _ _ | apply Upd.drew | apply Upd.drewN | apply Upd.alloc | refine Upd.setCell ?_ ?_ | refine Upd.call U6 ?_ ?_ | refine Upd.call h ?_ ?_) <;> first | (intro _ _ h; exact h) | (intro _ _ h; exact h.elim) | (intro i h1 h2; exfalso; (try simp only at h2); omega) | (left; rfl) | (right; dsimp only; omega) | (right; omega)) : Upd Non wr w6)
        have HW6 := Lib.hid (by have h := HU5.out; have h2 := HU.out; ((with_reducible repeat' first | exact Upd.refl _ _ | apply Upd.drew | apply Upd.drewN | apply Upd.alloc | refine Upd.setCell ?_ ?_ | refine Upd.call U6 ?_ ?_ | refine Upd.call h ?_ ?_ | refine Upd.call h2 ?_ ?_) <;> first | (intro _ _ h; exact h) | (intro _ _ h; exact h.elim) | (intro i h1 h2; exfalso; (try simp only at h2); omega) | (left; rfl) | (right; dsimp only; omega) | (right; omega)) : Upd Non w w6)
        clear U6
        rw [HR.out]
        go_wp2_with fail
        go_roundw
        case rel => exact ⟨4, by omega, by go_num, TBlk.upd HU6.out HB.out id, Blk.upd HU6.out HX.out id, HW6.out⟩
        case measure => simp [intOf]
      · have HR := Lib.hid (show (s.write r v).read 3 = s.h from (read_write s r v 3 (by omega)).trans (if_neg (fun e => hq e.symm)))
        have hq' : ¬ 3 = r := fun e => hq e.symm
        go_wp2_with fail
        refine (read_spec b _ _ _ (TBlk.upd (S := Non) (by ((with_reducible repeat' first | exact Upd.refl _ _ | apply Upd.drew | apply Upd.drewN | apply Upd.alloc | refine Upd.setCell ?_ ?_) <;> first | (intro _ _ h; exact h) | (intro _ _ h; exact h.elim) | (intro i h1 h2; exfalso; (try simp only at h2); omega) | (left; rfl) | (right; dsimp only; omega) | (right; omega))) HB.out id)).mono ?_
        rintro e w5 ⟨rfl, U5⟩
        have HU5 := Lib.hid (by ((with_reducible repeat' first | exact Upd.refl _ _ | apply Upd.drew | apply Upd.drewN | apply Upd.alloc | refine Upd.setCell ?_ ?_ | refine Upd.call U5 ?_ ?_) <;> first | (intro _ _ h; exact h) | (intro _ _ h; exact h.elim) | (intro i h1 h2; exfalso; (try simp only at h2); omega) | (left; rfl) | (right; dsimp only; omega) | (right; omega)) : Upd Non wr w5)
        clear U5
        rw [HR.out]
        go_wp2_with fail
        refine (read_spec b _ _ _ (TBlk.upd HU5.out HB.out id)).mono ?_
        rintro e w6 ⟨rfl, U6⟩
        have HU6 := Lib.hid (by have h := HU5.out; ((with_reducible repeat' first | exact Upd.refl _ _ | apply Upd.drew | apply Upd.drewN | apply Upd.alloc | refine Upd.setCell ?_ ?_ | refine Upd.call U6 ?_ ?_ | refine Upd.call h ?_ ?_) <;> first | (intro _ _ h; exact h) | (intro _ _ h; exact h.elim) | (intro i h1 h2; exfalso; (try simp only at h2); omega) | (left; rfl) | (right; dsimp only; omega) | (right; omega)) : Upd Non wr w6)
        have HW6 := Lib.hid (by have h := HU5.out; have h2 := HU.out; ((with_reducible repeat' first | exact Upd.refl _ _ | apply Upd.drew | apply Upd.drewN | apply Upd.alloc | refine Upd.setCell ?_ ?_ | refine Upd.call U6 ?_ ?_ | refine Upd.call h ?_ ?_ | refine Upd.call h2 ?_ ?_) <;> first | (intro _ _ h; exact h) | (intro _ _ h; exact h.elim) | (intro i h1 h2; exfalso; (try simp only at h2); omega) | (left; rfl) | (right; dsimp only; omega) | (right; omega)) : Upd Non w w6)
        clear U6
        rw [HR.out]
        go_wp2_with fail
        go_roundw
        case rel => exact ⟨4, by omega, by go_num, TBlk.upd HU6.out HB.out id, Blk.upd HU6.out HX.out id, HW6.out⟩
        case measure => simp [intOf]
end Go.Proofs.Ytmblplhehbdocaa
