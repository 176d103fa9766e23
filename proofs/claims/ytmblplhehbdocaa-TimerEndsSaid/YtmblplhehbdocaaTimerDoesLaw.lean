/- TimerDoes: the law's walk. Conditions: the arguments read as numbers. -/
import Derived.Test.YtmblplhehbdocaaTimerSame
namespace Go.Proofs.Ytmblplhehbdocaa
open Go.RowKit

theorem does_long (s : TS) (A : Option Addr) (n c : Nat) (h : 300 < n) (w : World) :
    Calls Try.prog 6 #[.agg s.vals, .slice A n c] w fun e w' => e = .returned (.bool true) ∧ Upd Non w w' := by
  have h3 : (300 : Int) < n := by omega
  clear h
  unfold TS.vals
  go_enter Try.func6, Try.ntmps6
  go_wp2_with (go_at_call 15; refine (awake_spec _).mono ?_; rintro e w1 ⟨rfl, hU1⟩)
  go_ret
  exact ⟨rfl, by ((with_reducible repeat' first | exact Upd.refl _ _ | apply Upd.drew | apply Upd.drewN | apply Upd.alloc | refine Upd.setCell ?_ ?_ | refine Upd.call hU1 ?_ ?_) <;> first | (intro _ _ h; exact h) | (intro _ _ h; exact h.elim) | (intro i h1 h2; exfalso; (try simp only at h2); omega) | (left; rfl) | (right; dsimp only; omega) | (right; omega))⟩

theorem KA2_upd {S : Nat → Prop} {a b : World} {p1 p2 : Addr} {x y : Value} (u : Upd S a b) {k : Nat} (hn : ¬ S k) (h : a.cell? p1 = some x ∧ a.cell? p2 = some y) (h1 : p1.block = k := by rfl) (h2 : p2.block = k := by rfl) :
    b.cell? p1 = some x ∧ b.cell? p2 = some y := ⟨u.cell_eq (h1 ▸ hn) h.1, u.cell_eq (h2 ▸ hn) h.2⟩

set_option maxRecDepth 100000 in
set_option maxHeartbeats 16000000 in
theorem does_some (c l k h : Int) (hc : 0 ≤ c ∧ c ≤ 4294967295) (hl : 0 ≤ l ∧ l ≤ 4294967295) (hk : 0 ≤ k ∧ k ≤ 4294967295) (hh : 0 ≤ h ∧ h ≤ 4294967295) (A : Option Addr) (N cc : Nat) (H R M V : Nat → Int) (h2 : N ≤ 300) (w : World)
    (hd : 0 < N → ∃ b o, A = some ⟨b, o, none⟩ ∧ ∀ j, j < N → w.cell? ⟨b, o + j * 4, none⟩ = some (.int .i64 (H j)) ∧ w.cell? ⟨b, o + j * 4 + 1, none⟩ = some (.int .i64 (R j)) ∧ w.cell? ⟨b, o + j * 4 + 2, none⟩ = some (.int .i64 (M j)) ∧ w.cell? ⟨b, o + j * 4 + 3, none⟩ = some (.int .u32 (V j)) ∧ 0 ≤ V j ∧ V j ≤ 4294967295) :
    Calls Try.prog 6 #[.agg #[.int .u32 c, .int .u32 l, .int .u32 k, .int .u32 h], .slice A N cc] w fun e w' => e = .returned (.bool true) ∧ Upd Non w w' := by
  have k0 : ¬ (300 : Int) < N := by omega
  have HD := Lib.hid hd
  have HOK := Lib.hid (show TS.ok ⟨c, l, k % 8, h⟩ from ⟨hc, hl, by dsimp only; omega, hh⟩)
  have HK := Lib.hid hk
  have hm : k.tmod 8 = k % 8 := Int.tmod_eq_emod_of_nonneg hk.1
  have hm2 : (k % 8) % 4294967296 = k % 8 := by omega
  clear hd hc hl hk hh
  go_enter Try.func6, Try.ntmps6
  go_wp2_with fail
  refine (of_spec c l k h HK.out _).mono ?_
  rintro e w1 ⟨b, rfl, hb, hB, U⟩
  have hbl := hB.blk.lt
  have hbw : w.heap.size ≤ b := by simp at hb; omega
  have HB := Lib.hid hB
  have HU := Lib.hid (by ((with_reducible repeat' first | exact Upd.refl _ _ | apply Upd.drew | apply Upd.drewN | apply Upd.alloc | refine Upd.setCell ?_ ?_ | refine Upd.call U ?_ ?_) <;> first | (intro _ _ h; exact h) | (intro _ _ h; exact h.elim) | (intro i h1 h2; exfalso; (try simp only at h2); omega) | (left; rfl) | (right; dsimp only; omega) | (right; omega)) : Upd Non w w1)
  have hbx : w1.cell? ⟨w.heap.size, 0, none⟩ = some (.int .u32 c) ∧ w1.cell? ⟨w.heap.size, 1, none⟩ = some (.int .u32 l) ∧ w1.cell? ⟨w.heap.size, 2, none⟩ = some (.int .u32 k) ∧ w1.cell? ⟨w.heap.size, 3, none⟩ = some (.int .u32 h) := by
    have hq : Blk w1 w.heap.size #[.int .u32 c, .int .u32 l, .int .u32 k, .int .u32 h] 28 := Blk.upd U (Blk.new w _ _) id
    exact ⟨hq.cell 0 rfl, hq.cell 1 rfl, hq.cell 2 rfl, hq.cell 3 rfl⟩
  obtain ⟨x0, x1, x2, x3⟩ := hbx
  clear hB U hb
  go_wp2_with fail
  obtain ⟨b6, hb6⟩ : ∃ x, x = w1.heap.size := ⟨_, rfl⟩
  rw [← hb6]
  have hX : Blk (w1.alloc (.cells (TS.vals ⟨c, l, k % 8, h⟩) 66)) b6 (TS.vals ⟨c, l, k % 8, h⟩) 66 := Blk.newAt hb6
  have hB6 : TBlk (w1.alloc (.cells (TS.vals ⟨c, l, k % 8, h⟩) 66)) b ⟨c, l, k % 8, h⟩ := TBlk.upd (S := Non) (by ((with_reducible repeat' first | exact Upd.refl _ _ | apply Upd.drew | apply Upd.drewN | apply Upd.alloc | refine Upd.setCell ?_ ?_) <;> first | (intro _ _ h; exact h) | (intro _ _ h; exact h.elim) | (intro i h1 h2; exfalso; (try simp only at h2); omega) | (left; rfl) | (right; dsimp only; omega) | (right; omega))) HB.out id
  have hU6 : Upd Non w (w1.alloc (.cells (TS.vals ⟨c, l, k % 8, h⟩) 66)) := by
    have h := HU.out
    ((with_reducible repeat' first | exact Upd.refl _ _ | apply Upd.drew | apply Upd.drewN | apply Upd.alloc | refine Upd.setCell ?_ ?_ | refine Upd.call h ?_ ?_) <;> first | (intro _ _ h; exact h) | (intro _ _ h; exact h.elim) | (intro i h1 h2; exfalso; (try simp only at h2); omega) | (left; rfl) | (right; dsimp only; omega) | (right; omega))
  have hbb : b ≠ b6 := by omega
  have hw6 : w.heap.size ≤ b6 := by have := HU.out.size; omega
  have HX := Lib.hid hX
  have HB6 := Lib.hid hB6
  have HU6 := Lib.hid hU6
  clear hX hB6 hU6 hb6 x0 x1 x2 x3 HB HU hbl
  go_loopw [7] (fun i wr => ∃ (t : Nat) (s : TS), t ≤ N ∧ i = .int .i64 t ∧ s.ok ∧ TBlk wr b s ∧ Blk wr b6 s.vals 66 ∧ Upd Non w wr) (fun i _ => N - (intOf i).toNat)
  case atStart => exact ⟨0, _, by omega, rfl, HOK.out, HB6.out, HX.out, HU6.out⟩
  case round =>
    clear HX HB6 HU6 HOK hm hm2
    obtain ⟨t, s, ht, rfl, hs, hB, hX, hu⟩ := hrel
    have HS := Lib.hid hs
    have HB := Lib.hid hB
    have HX := Lib.hid hX
    have HU := Lib.hid hu
    have x0 : wr.cell? ⟨b6, 0, none⟩ = some (.int .u32 s.c) := hX.cell 0 rfl
    have x1 : wr.cell? ⟨b6, 1, none⟩ = some (.int .u32 s.l) := hX.cell 1 rfl
    have x2 : wr.cell? ⟨b6, 2, none⟩ = some (.int .u32 s.k) := hX.cell 2 rfl
    have x3 : wr.cell? ⟨b6, 3, none⟩ = some (.int .u32 s.h) := hX.cell 3 rfl
    clear hs hB hX hu
    by_cases hlt : t < N
    case neg =>
      have k1 : ¬ (t : Int) < N := by omega
      go_wp2_with fail
      refine (same_spec b s HS.out _ HB.out).mono ?_
      rintro e w2 ⟨rfl, U2⟩
      have HU2 := Lib.hid (by have h := HU.out; ((with_reducible repeat' first | exact Upd.refl _ _ | apply Upd.drew | apply Upd.drewN | apply Upd.alloc | refine Upd.setCell ?_ ?_ | refine Upd.call U2 ?_ ?_ | refine Upd.call h ?_ ?_) <;> first | (intro _ _ h; exact h) | (intro _ _ h; exact h.elim) | (intro i h1 h2; exfalso; (try simp only at h2); omega) | (left; rfl) | (right; dsimp only; omega) | (right; omega)) : Upd Non w w2)
      clear U2
      go_wp2_with fail
      refine (awake_spec _).mono ?_
      rintro e w3 ⟨rfl, U3⟩
      go_wp2_with fail
      go_ret
      exact ⟨rfl, by have h := HU2.out; ((with_reducible repeat' first | exact Upd.refl _ _ | apply Upd.drew | apply Upd.drewN | apply Upd.alloc | refine Upd.setCell ?_ ?_ | refine Upd.call U3 ?_ ?_ | refine Upd.call h ?_ ?_) <;> first | (intro _ _ h; exact h) | (intro _ _ h; exact h.elim) | (intro i h1 h2; exfalso; (try simp only at h2); omega) | (left; rfl) | (right; dsimp only; omega) | (right; omega))⟩
    have k1 : (t : Int) < N := by omega
    obtain ⟨ba, o, rfl, hcells⟩ := HD.out (by omega)
    obtain ⟨ce0, ce1, ce2, ce3, ce4⟩ := hcells t hlt
    have CE := Lib.hid (And.intro ce0 (And.intro ce1 (And.intro ce2 ce3)))
    have HV := Lib.hid ce4
    have hba : ba < w.heap.size := World.block_lt_of_cell? _ _ ce0
    clear hcells ce0 ce1 ce2 ce3 ce4
    go_wp2_with fail
    refine (same_spec b s HS.out _ HB.out).mono ?_
    rintro e w2 ⟨rfl, U2⟩
    have HB2 := Lib.hid (TBlk.upd U2 HB.out id)
    have HX2 := Lib.hid (Blk.upd U2 HX.out id)
    have HU2 := Lib.hid (by have h := HU.out; ((with_reducible repeat' first | exact Upd.refl _ _ | apply Upd.drew | apply Upd.drewN | apply Upd.alloc | refine Upd.setCell ?_ ?_ | refine Upd.call U2 ?_ ?_ | refine Upd.call h ?_ ?_) <;> first | (intro _ _ h; exact h) | (intro _ _ h; exact h.elim) | (intro i h1 h2; exfalso; (try simp only at h2); omega) | (left; rfl) | (right; dsimp only; omega) | (right; omega)) : Upd Non w w2)
    have d0 := HU2.out.cell_eq id CE.out.1
    have d1 := HU2.out.cell_eq id CE.out.2.1
    have d2 := HU2.out.cell_eq id CE.out.2.2.1
    have d3 := HU2.out.cell_eq id CE.out.2.2.2
    clear U2 HB HX HU x0 x1 x2 x3
    go_wp2_with fail
    refine (pick_spec (H t) 3 (by decide) (by decide) _).mono ?_
    rintro e w3 ⟨rfl, rfl⟩
    by_cases hpk : H t % 3 < 2
    · generalize H t % 3 = hh at *
      go_wp2_with fail
      have hnb : ¬ ba = b := by omega
      have hnb6 : ¬ ba = b6 := by omega
      have hX2 := HX2.out
      have y0 : w2.cell? ⟨b6, 0, none⟩ = some (.int .u32 s.c) := hX2.cell 0 rfl
      have y1 : w2.cell? ⟨b6, 1, none⟩ = some (.int .u32 s.l) := hX2.cell 1 rfl
      have y2 : w2.cell? ⟨b6, 2, none⟩ = some (.int .u32 s.k) := hX2.cell 2 rfl
      have y3 : w2.cell? ⟨b6, 3, none⟩ = some (.int .u32 s.h) := hX2.cell 3 rfl
      clear hX2
      go_region_held3 (fun w' => w'.cell? ⟨ba, o + t * 4 + 1, none⟩ = some (.int .i64 (R t)) ∧ w'.cell? ⟨ba, o + t * 4 + 3, none⟩ = some (.int .u32 (V t))) (first | exact ⟨d1, d3⟩ | exact KA2_upd U4 hnb ⟨d1, d3⟩ | exact KA2_upd U4 hnb (by assumption))
        (first | (go_at_call 36; refine Calls.mono (write_spec b s (R t) (V t) HV.out _ (TBlk.upd (S := Non) (by ((with_reducible repeat' first | exact Upd.refl _ _ | apply Upd.drew | apply Upd.drewN | apply Upd.alloc | refine Upd.setCell ?_ ?_) <;> first | (intro _ _ h; exact h) | (intro _ _ h; exact h.elim) | (intro i h1 h2; exfalso; (try simp only at h2); omega) | (left; rfl) | (right; dsimp only; omega) | (right; omega))) HB2.out id)) ?_; rintro e w4 ⟨rfl, hb4, U4⟩))
      have HB4 := Lib.hid hb4
      have HX4 := Lib.hid (Blk.upd U4 HX2.out (fun h => hbb h.symm))
      have HU4 := Lib.hid (by have h := HU2.out; ((with_reducible repeat' first | exact Upd.refl _ _ | apply Upd.drew | apply Upd.drewN | apply Upd.alloc | refine Upd.setCell ?_ ?_ | refine Upd.call U4 ?_ ?_ | refine Upd.call h ?_ ?_) <;> first | (intro _ _ h; exact h) | (intro _ _ h; exact h.elim) | (intro i h1 h2; exfalso; (try simp only at h2); omega) | (left; rfl) | (right; dsimp only; omega) | (right; omega)) : Upd Non w w4)
      have HS4 := Lib.hid (TS.write_ok HS.out (R t) HV.out)
      have e1 := HU4.out.cell_eq id CE.out.2.1
      have e3 := HU4.out.cell_eq id CE.out.2.2.2
      have hX4 := HX4.out
      have y0 : w4.cell? ⟨b6, 0, none⟩ = some (.int .u32 s.c) := hX4.cell 0 rfl
      have y1 : w4.cell? ⟨b6, 1, none⟩ = some (.int .u32 s.l) := hX4.cell 1 rfl
      have y2 : w4.cell? ⟨b6, 2, none⟩ = some (.int .u32 s.k) := hX4.cell 2 rfl
      have y3 : w4.cell? ⟨b6, 3, none⟩ = some (.int .u32 s.h) := hX4.cell 3 rfl
      have g0 := hX4.frozen 0
      have g1 := hX4.frozen 1
      have g2 := hX4.frozen 2
      have g3 := hX4.frozen 3
      clear hb4 U4 hX4
      go_wp2_with fail
      go_region_with (go_at_call 37; refine (refWrite_spec s (R t) (V t) HV.out _).mono ?_; rintro e w5 ⟨rfl, U5⟩; have y0' := U5.cell_eq id y0; have y1' := U5.cell_eq id y1; have y2' := U5.cell_eq id y2; have y3' := U5.cell_eq id y3; have g0' : w5.frozen? ⟨b6, 0, none⟩ = false := (U5.frozen HX4.out.lt id).trans g0; have g1' : w5.frozen? ⟨b6, 1, none⟩ = false := (U5.frozen HX4.out.lt id).trans g1; have g2' : w5.frozen? ⟨b6, 2, none⟩ = false := (U5.frozen HX4.out.lt id).trans g2; have g3' : w5.frozen? ⟨b6, 3, none⟩ = false := (U5.frozen HX4.out.lt id).trans g3; unfold TS.vals)
      all_goals
        have HX5 := Lib.hid (Blk.upd U5 (by have h := HX4.out; ((with_reducible repeat' first | apply Blk.drew | apply Blk.drewN | apply Blk.alloc | apply Blk.set | refine Blk.set_ne ?_ ?_) <;> first | with_reducible exact h | omega | (dsimp only; omega)) : Blk _ b6 s.vals 66) id)
        have HB5 := Lib.hid (TBlk.upd U5 (TBlk.upd (S := Non) (by ((with_reducible repeat' first | exact Upd.refl _ _ | apply Upd.drew | apply Upd.drewN | apply Upd.alloc | refine Upd.setCell ?_ ?_) <;> first | (intro _ _ h; exact h) | (intro _ _ h; exact h.elim) | (intro i h1 h2; exfalso; (try simp only at h2); omega) | (left; rfl) | (right; dsimp only; omega) | (right; omega))) HB4.out id) id)
        have HU5 := Lib.hid (by have h := HU4.out; ((with_reducible repeat' first | exact Upd.refl _ _ | apply Upd.drew | apply Upd.drewN | apply Upd.alloc | refine Upd.setCell ?_ ?_ | refine Upd.call U5 ?_ ?_ | refine Upd.call h ?_ ?_) <;> first | (intro _ _ h; exact h) | (intro _ _ h; exact h.elim) | (intro i h1 h2; exfalso; (try simp only at h2); omega) | (left; rfl) | (right; dsimp only; omega) | (right; omega)) : Upd Non w w5)
        clear U5 y0 y1 y2 y3 g0 g1 g2 g3 y0' y1' y2' y3' g0' g1' g2' g3'
        go_wp2_with fail
        go_roundw
        case rel =>
          refine ⟨t + 1, s.write (R t) (V t), by omega, by go_num, HS4.out, ?_, ?_, ?_⟩
          · have h := HB5.out.blk
            exact (show Blk _ b _ 78 by ((with_reducible repeat' first | apply Blk.drew | apply Blk.drewN | apply Blk.alloc | apply Blk.set | refine Blk.set_ne ?_ ?_) <;> first | with_reducible exact h | omega | (dsimp only; omega)))
          · have h := HX5.out
            refine Blk.eq (c := (((s.vals.setIfInBounds 0 (.int .u32 (s.write (R t) (V t)).c)).setIfInBounds 1 (.int .u32 (s.write (R t) (V t)).l)).setIfInBounds 2 (.int .u32 (s.write (R t) (V t)).k)).setIfInBounds 3 (.int .u32 (s.write (R t) (V t)).h)) (by ((with_reducible repeat' first | apply Blk.drew | apply Blk.drewN | apply Blk.alloc | apply Blk.set | refine Blk.set_ne ?_ ?_) <;> first | with_reducible exact h | omega | (dsimp only; omega))) rfl
          · have h := HU5.out
            ((with_reducible repeat' first | exact Upd.refl _ _ | apply Upd.drew | apply Upd.drewN | apply Upd.alloc | refine Upd.setCell ?_ ?_ | refine Upd.call h ?_ ?_) <;> first | (intro _ _ h; exact h) | (intro _ _ h; exact h.elim) | (intro i h1 h2; exfalso; (try simp only at h2); omega) | (left; rfl) | (right; dsimp only; omega) | (right; omega))
        case measure => simp [intOf]; omega
    · generalize H t % 3 = hh at *
      go_wp2_with fail
      obtain ⟨m, hm⟩ : ∃ m : Nat, M t % 9 = (m : Int) := ⟨(M t % 9).toNat, by omega⟩
      have hm9 : m < 9 := by omega
      have HM := Lib.hid hm
      clear hm d0 d1 d2 d3
      go_loopw [8] (fun i wr => ∃ (j : Nat) (s : TS), j ≤ m ∧ i = .int .i64 j ∧ s.ok ∧ TBlk wr b s ∧ Blk wr b6 s.vals 66 ∧ Upd Non w wr) (fun i _ => m - (intOf i).toNat)
      case atStart => exact ⟨0, s, by omega, rfl, HS.out, HB2.out, HX2.out, HU2.out⟩
      case round =>
        clear HS HB2 HX2 HU2
        obtain ⟨j, s, hj, rfl, hs, hB, hX, hu⟩ := hrel
        have HS := Lib.hid hs
        have HB := Lib.hid hB
        have HX := Lib.hid hX
        have HU := Lib.hid hu
        have d2 := hu.cell_eq id CE.out.2.2.1
        clear hs hB hX hu
        go_wp2_with fail
        refine (pick_spec (M t) 9 (by decide) (by decide) _).mono ?_
        rintro e w3 ⟨rfl, rfl⟩
        rw [HM.out]
        by_cases hjm : j < m
        · have k2 : (j : Int) < m := by omega
          go_wp2_with fail
          refine (tick_spec b s HS.out _ HB.out).mono ?_
          rintro e w4 ⟨rfl, hb4, U4⟩
          have HB4 := Lib.hid hb4
          have HX4 := Lib.hid (Blk.upd U4 HX.out (fun h => hbb h.symm))
          have HU4 := Lib.hid (by have h := HU.out; ((with_reducible repeat' first | exact Upd.refl _ _ | apply Upd.drew | apply Upd.drewN | apply Upd.alloc | refine Upd.setCell ?_ ?_ | refine Upd.call U4 ?_ ?_ | refine Upd.call h ?_ ?_) <;> first | (intro _ _ h; exact h) | (intro _ _ h; exact h.elim) | (intro i h1 h2; exfalso; (try simp only at h2); omega) | (left; rfl) | (right; dsimp only; omega) | (right; omega)) : Upd Non w w4)
          have hX4 := HX4.out
          have y0 : w4.cell? ⟨b6, 0, none⟩ = some (.int .u32 s.c) := hX4.cell 0 rfl
          have y1 : w4.cell? ⟨b6, 1, none⟩ = some (.int .u32 s.l) := hX4.cell 1 rfl
          have y2 : w4.cell? ⟨b6, 2, none⟩ = some (.int .u32 s.k) := hX4.cell 2 rfl
          have y3 : w4.cell? ⟨b6, 3, none⟩ = some (.int .u32 s.h) := hX4.cell 3 rfl
          clear hb4 U4 hX4
          go_wp2_with fail
          refine (refTick_spec s HS.out _).mono ?_
          rintro e w5 ⟨rfl, U5⟩
          have hX5 : Blk w5 b6 s.vals 66 := Blk.upd U5 HX4.out id
          have y0 : w5.cell? ⟨b6, 0, none⟩ = some (.int .u32 s.c) := hX5.cell 0 rfl
          have y1 : w5.cell? ⟨b6, 1, none⟩ = some (.int .u32 s.l) := hX5.cell 1 rfl
          have y2 : w5.cell? ⟨b6, 2, none⟩ = some (.int .u32 s.k) := hX5.cell 2 rfl
          have y3 : w5.cell? ⟨b6, 3, none⟩ = some (.int .u32 s.h) := hX5.cell 3 rfl
          have g0 := hX5.frozen 0
          have g1 := hX5.frozen 1
          have g2 := hX5.frozen 2
          have g3 := hX5.frozen 3
          have HX5 := Lib.hid hX5
          have HB5 := Lib.hid (TBlk.upd U5 HB4.out id)
          have HU5 := Lib.hid (by have h := HU4.out; ((with_reducible repeat' first | exact Upd.refl _ _ | apply Upd.drew | apply Upd.drewN | apply Upd.alloc | refine Upd.setCell ?_ ?_ | refine Upd.call U5 ?_ ?_ | refine Upd.call h ?_ ?_) <;> first | (intro _ _ h; exact h) | (intro _ _ h; exact h.elim) | (intro i h1 h2; exfalso; (try simp only at h2); omega) | (left; rfl) | (right; dsimp only; omega) | (right; omega)) : Upd Non w w5)
          clear hX5 U5
          unfold TS.vals
          go_wp2_with fail
          go_roundw
          case rel =>
            refine ⟨j + 1, s.tick, by omega, by go_num, TS.tick_ok HS.out, ?_, ?_, ?_⟩
            · have h := HB5.out.blk
              exact (show Blk _ b _ 78 by ((with_reducible repeat' first | apply Blk.drew | apply Blk.drewN | apply Blk.alloc | apply Blk.set | refine Blk.set_ne ?_ ?_) <;> first | with_reducible exact h | omega | (dsimp only; omega)))
            · have h := HX5.out
              refine Blk.eq (c := (((s.vals.setIfInBounds 0 (.int .u32 s.tick.c)).setIfInBounds 1 (.int .u32 s.tick.l)).setIfInBounds 2 (.int .u32 s.tick.k)).setIfInBounds 3 (.int .u32 s.tick.h)) (by ((with_reducible repeat' first | apply Blk.drew | apply Blk.drewN | apply Blk.alloc | apply Blk.set | refine Blk.set_ne ?_ ?_) <;> first | with_reducible exact h | omega | (dsimp only; omega))) rfl
            · have h := HU5.out
              ((with_reducible repeat' first | exact Upd.refl _ _ | apply Upd.drew | apply Upd.drewN | apply Upd.alloc | refine Upd.setCell ?_ ?_ | refine Upd.call h ?_ ?_) <;> first | (intro _ _ h; exact h) | (intro _ _ h; exact h.elim) | (intro i h1 h2; exfalso; (try simp only at h2); omega) | (left; rfl) | (right; dsimp only; omega) | (right; omega))
          case measure => simp [intOf]; omega
        · have k2 : ¬ (j : Int) < m := by omega
          go_wp2_with fail
          go_roundw
          case rel => exact ⟨t + 1, s, by omega, by go_num, HS.out, HB.out, HX.out, HU.out⟩
          case measure => simp [intOf]; omega

theorem does_law (c l k h : Int) (hc : 0 ≤ c ∧ c ≤ 4294967295) (hl : 0 ≤ l ∧ l ≤ 4294967295) (hk : 0 ≤ k ∧ k ≤ 4294967295) (hh : 0 ≤ h ∧ h ≤ 4294967295) (A : Option Addr) (N cc : Nat) (H R M V : Nat → Int) (w : World)
    (hd : 0 < N → ∃ b o, A = some ⟨b, o, none⟩ ∧ ∀ j, j < N → w.cell? ⟨b, o + j * 4, none⟩ = some (.int .i64 (H j)) ∧ w.cell? ⟨b, o + j * 4 + 1, none⟩ = some (.int .i64 (R j)) ∧ w.cell? ⟨b, o + j * 4 + 2, none⟩ = some (.int .i64 (M j)) ∧ w.cell? ⟨b, o + j * 4 + 3, none⟩ = some (.int .u32 (V j)) ∧ 0 ≤ V j ∧ V j ≤ 4294967295) :
    Calls Try.prog 6 #[.agg #[.int .u32 c, .int .u32 l, .int .u32 k, .int .u32 h], .slice A N cc] w fun e w' => e = .returned (.bool true) ∧ Upd Non w w' := by
  by_cases h2 : 300 < N
  · exact does_long ⟨c, l, k, h⟩ A N cc h2 w
  · exact does_some c l k h hc hl hk hh A N cc H R M V (by omega) w hd
end Go.Proofs.Ytmblplhehbdocaa
