/- TimerEnds: the law's walk. No condition. -/
import Derived.Test.YtmblplhehbdocaaTimerDoesLaw
import Derived.Test.YtmblplhehbdocaaTimerNone
namespace Go.Proofs.Ytmblplhehbdocaa
open Go.RowKit

def endsV : Array Value := #[.int .u32 0, .int .u32 1, .int .u32 2, .int .u32 4294967294, .int .u32 4294967295]
def ev (j : Nat) : Int := [0, 1, 2, 4294967294, 4294967295].getD j 0
theorem ends_at {j : Nat} (h : j < 5) : endsV[j]? = some (.int .u32 (ev j)) ∧ (0 ≤ ev j ∧ ev j ≤ 4294967295) := by
  rcases (show j = 0 ∨ j = 1 ∨ j = 2 ∨ j = 3 ∨ j = 4 by omega) with rfl | rfl | rfl | rfl | rfl
  all_goals exact ⟨rfl, by decide⟩
def HE (w w' : World) (be : Nat) : Prop := Blk w' be endsV 22 ∧ Upd Non w w'
def SE (w w' : World) (be : Nat) (i j k : Nat) : Prop := w'.cell? ⟨be, i, none⟩ = some (.int .u32 (ev i)) ∧ w'.cell? ⟨be, j, none⟩ = some (.int .u32 (ev j)) ∧ w'.cell? ⟨be, k, none⟩ = some (.int .u32 (ev k)) ∧ Hid (HE w w' be)
section
variable {w x : World} {be i j k : Nat}
theorem SE_of (hi : i < 5) (hj : j < 5) (hk : k < 5) (h : HE w x be) : SE w x be i j k := ⟨h.1.cell i (ends_at hi).1, h.1.cell j (ends_at hj).1, h.1.cell k (ends_at hk).1, Lib.hid h⟩
theorem SE_drew (h : SE w x be i j k) : SE w x.drew be i j k := ⟨h.1, h.2.1, h.2.2.1, Lib.hid ⟨h.2.2.2.out.1, h.2.2.2.out.2.drew⟩⟩
theorem SE_up {y : World} (u : Upd Non x y) (h : SE w x be i j k) : SE w y be i j k :=
  ⟨u.cell_eq id h.1, u.cell_eq id h.2.1, u.cell_eq id h.2.2.1, Lib.hid ⟨Blk.upd u h.2.2.2.out.1 id, Upd.call u h.2.2.2.out.2 fun _ _ h => h⟩⟩
end
theorem ediv_nat (n m : Nat) : (n : Int).tdiv (m : Int) = ((n / m : Nat) : Int) := by rw [Int.tdiv_eq_ediv_of_nonneg (by omega)]; rfl
theorem emod_nat (n m : Nat) : (n : Int).tmod (m : Int) = ((n % m : Nat) : Int) := by rw [Int.tmod_eq_emod_of_nonneg (by omega)]; rfl

set_option maxRecDepth 100000 in
set_option maxHeartbeats 16000000 in
theorem ends_law (w : World) : Calls Try.prog 7 #[] w fun e w' => e = .returned (.bool true) ∧ Upd Non w w' := by
  go_enter Try.func7, Try.ntmps7
  go_wp2_with fail
  obtain ⟨be, hbe⟩ : ∃ b, b = w.heap.size := ⟨_, rfl⟩
  have hU0 := Lib.hid (by ((with_reducible repeat' first | exact Upd.refl _ _ | apply Upd.drew | apply Upd.drewN | apply Upd.alloc | refine Upd.setCell ?_ ?_) <;> first | (intro _ _ h; exact h) | (intro _ _ h; exact h.elim) | (intro i h1 h2; exfalso; (try simp only at h2); omega) | (left; rfl) | (right; dsimp only; omega) | (right; omega)) : Upd Non w (w.alloc (.cells endsV 22)))
  have hE0 := Lib.hid (hbe ▸ Blk.new w endsV 22)
  have hbw : w.heap.size ≤ be := by omega
  rw [← hbe]
  clear hbe
  go_loopw [2] (fun i wr => ∃ t : Nat, t ≤ 125 ∧ i = .int .i64 t ∧ HE w wr be) (fun i _ => 125 - (intOf i).toNat)
  case atStart => exact ⟨0, by omega, rfl, hE0.out, hU0.out⟩
  case round =>
    clear hE0 hU0
    obtain ⟨t, ht, rfl, hE⟩ := hrel
    have HEE := Lib.hid hE
    clear hE
    by_cases hlt : t < 125
    case neg =>
      have k1 : ¬ (t : Int) < 125 := by omega
      go_wp2_with fail
      refine (does_law 0 0 0 0 (by decide) (by decide) (by decide) (by decide) (some ⟨wr.heap.size, 0, none⟩) 2 2 (fun _ => 0) (fun j => if j = 0 then -9223372036854775808 else 9223372036854775807) (fun _ => 0) (fun _ => 1) _ ?hd).mono ?_
      case hd =>
        intro _
        refine ⟨_, 0, rfl, fun j hj => ?_⟩
        have hb := Blk.new wr #[.int .i64 0, .int .i64 (-9223372036854775808), .int .i64 0, .int .u32 1, .int .i64 0, .int .i64 9223372036854775807, .int .i64 0, .int .u32 1] 69
        rcases (show j = 0 ∨ j = 1 by omega) with rfl | rfl
        all_goals exact ⟨hb.cell _ rfl, hb.cell _ rfl, hb.cell _ rfl, hb.cell _ rfl, by decide, by decide⟩
      rintro e w1 ⟨rfl, U1⟩
      have HU1 := Lib.hid (by have h := HEE.out.2; ((with_reducible repeat' first | exact Upd.refl _ _ | apply Upd.drew | apply Upd.drewN | apply Upd.alloc | refine Upd.setCell ?_ ?_ | refine Upd.call U1 ?_ ?_ | refine Upd.call h ?_ ?_) <;> first | (intro _ _ h; exact h) | (intro _ _ h; exact h.elim) | (intro i h1 h2; exfalso; (try simp only at h2); omega) | (left; rfl) | (right; dsimp only; omega) | (right; omega)) : Upd Non w w1)
      clear U1 HEE
      go_wp2_with fail
      refine (new_spec _).mono ?_
      rintro e w2 ⟨b, rfl, hb, hB, U2⟩
      have HB2 := Lib.hid hB
      have HU2 := Lib.hid (by have h := HU1.out; ((with_reducible repeat' first | exact Upd.refl _ _ | apply Upd.drew | apply Upd.drewN | apply Upd.alloc | refine Upd.setCell ?_ ?_ | refine Upd.call U2 ?_ ?_ | refine Upd.call h ?_ ?_) <;> first | (intro _ _ h; exact h) | (intro _ _ h; exact h.elim) | (intro i h1 h2; exfalso; (try simp only at h2); omega) | (left; rfl) | (right; dsimp only; omega) | (right; omega)) : Upd Non w w2)
      clear hB U2 hb
      go_wp2_with fail
      refine (state_spec b _ _ HB2.out).mono ?_
      rintro e w3 ⟨rfl, U3⟩
      have HU3 := Lib.hid (by have h := HU2.out; ((with_reducible repeat' first | exact Upd.refl _ _ | apply Upd.drew | apply Upd.drewN | apply Upd.alloc | refine Upd.setCell ?_ ?_ | refine Upd.call U3 ?_ ?_ | refine Upd.call h ?_ ?_) <;> first | (intro _ _ h; exact h) | (intro _ _ h; exact h.elim) | (intro i h1 h2; exfalso; (try simp only at h2); omega) | (left; rfl) | (right; dsimp only; omega) | (right; omega)) : Upd Non w w3)
      clear U3 HB2 HU2 HU1
      unfold TS.vals
      go_wp2_with fail
      obtain ⟨br, hbr⟩ : ∃ b, b = w3.heap.size := ⟨_, rfl⟩
      rw [← hbr]
      have hn0 : ((w3.alloc (.cells #[.int .u32 0, .int .u32 0, .int .u32 0, .int .u32 0, .bool false] 78)).alloc (.cells #[.pointer none, .pointer (some ⟨br, 0, none⟩)] 25)).cell? ⟨br, 4, none⟩ = some (.bool false) :=
        (Blk.alloc (hbr ▸ Blk.new w3 _ 78)).cell 4 rfl
      have hN0 := Lib.hid hn0
      have hB0 := Lib.hid (Blk.newAt (w := w3.alloc (.cells #[.int .u32 0, .int .u32 0, .int .u32 0, .int .u32 0, .bool false] 78)) (n := br + 1) (c := #[.pointer none, .pointer (some ⟨br, 0, none⟩)]) (t := 25) (by rw [World.size_alloc, hbr]))
      have hU0 := Lib.hid (by have h := HU3.out; ((with_reducible repeat' first | exact Upd.refl _ _ | apply Upd.drew | apply Upd.drewN | apply Upd.alloc | refine Upd.setCell ?_ ?_ | refine Upd.call h ?_ ?_) <;> first | (intro _ _ h; exact h) | (intro _ _ h; exact h.elim) | (intro i h1 h2; exfalso; (try simp only at h2); omega) | (left; rfl) | (right; dsimp only; omega) | (right; omega)) : Upd Non w ((w3.alloc (.cells #[.int .u32 0, .int .u32 0, .int .u32 0, .int .u32 0, .bool false] 78)).alloc (.cells #[.pointer none, .pointer (some ⟨br, 0, none⟩)] 25)))
      clear hbr HU3 hn0
      go_loopw [7] (fun i wr => ∃ t : Nat, t ≤ 2 ∧ i = .int .i64 t ∧ Blk wr (br + 1) #[.pointer none, .pointer (some ⟨br, 0, none⟩)] 25 ∧ wr.cell? ⟨br, 4, none⟩ = some (.bool false) ∧ Upd Non w wr) (fun i _ => 2 - (intOf i).toNat)
      case atStart => exact ⟨0, by omega, rfl, hB0.out, hN0.out, hU0.out⟩
      case round =>
        clear hB0 hU0 hN0 ht hlt k1
        obtain ⟨t, ht, rfl, hp, hn, hu⟩ := hrel
        have HB := Lib.hid hp
        have HN := Lib.hid hn
        have HU := Lib.hid hu
        clear hp hu hn
        by_cases hlt : t < 2
        case pos =>
          have k1 : (t : Int) < 2 := by omega
          obtain ⟨p, hp, hn⟩ : ∃ p, (#[.pointer none, .pointer (some ⟨br, 0, none⟩)] : Array Value)[t]? = some p ∧ NoTm wr p := by
            rcases (show t = 0 ∨ t = 1 by omega) with rfl | rfl
            · exact ⟨_, rfl, .inl rfl⟩
            · exact ⟨_, rfl, .inr ⟨br, rfl, HN.out⟩⟩
          have c1 := HB.out.cell t hp
          have HQ := Lib.hid hn
          clear hp hn
          go_wp2_with fail
          refine (write_none p 0 1 _ HQ.out).mono ?_
          rintro e w1 ⟨rfl, U1⟩
          have HQ1 := Lib.hid (HQ.out.upd U1)
          have HU1 := Lib.hid (by ((with_reducible repeat' first | exact Upd.refl _ _ | apply Upd.drew | apply Upd.drewN | apply Upd.alloc | refine Upd.setCell ?_ ?_ | refine Upd.call U1 ?_ ?_) <;> first | (intro _ _ h; exact h) | (intro _ _ h; exact h.elim) | (intro i h1 h2; exfalso; (try simp only at h2); omega) | (left; rfl) | (right; dsimp only; omega) | (right; omega)) : Upd Non wr w1)
          clear U1
          go_wp2_with fail
          refine (write_none p 2 3 _ HQ1.out).mono ?_
          rintro e w2 ⟨rfl, U2⟩
          have HQ2 := Lib.hid (HQ1.out.upd U2)
          have HU2 := Lib.hid (by have h := HU1.out; ((with_reducible repeat' first | exact Upd.refl _ _ | apply Upd.drew | apply Upd.drewN | apply Upd.alloc | refine Upd.setCell ?_ ?_ | refine Upd.call U2 ?_ ?_ | refine Upd.call h ?_ ?_) <;> first | (intro _ _ h; exact h) | (intro _ _ h; exact h.elim) | (intro i h1 h2; exfalso; (try simp only at h2); omega) | (left; rfl) | (right; dsimp only; omega) | (right; omega)) : Upd Non wr w2)
          clear U2
          go_wp2_with fail
          refine (tick_none p _ HQ2.out).mono ?_
          rintro e w3 ⟨rfl, U3⟩
          have HQ3 := Lib.hid (HQ2.out.upd U3)
          have HU3 := Lib.hid (by have h := HU2.out; ((with_reducible repeat' first | exact Upd.refl _ _ | apply Upd.drew | apply Upd.drewN | apply Upd.alloc | refine Upd.setCell ?_ ?_ | refine Upd.call U3 ?_ ?_ | refine Upd.call h ?_ ?_) <;> first | (intro _ _ h; exact h) | (intro _ _ h; exact h.elim) | (intro i h1 h2; exfalso; (try simp only at h2); omega) | (left; rfl) | (right; dsimp only; omega) | (right; omega)) : Upd Non wr w3)
          clear U3
          go_wp2_with fail
          refine (read_none p 0 (.inl rfl) _ HQ3.out).mono ?_
          rintro e w4 ⟨rfl, U4⟩
          have HQ4 := Lib.hid (HQ3.out.upd U4)
          have HU4 := Lib.hid (by have h := HU3.out; ((with_reducible repeat' first | exact Upd.refl _ _ | apply Upd.drew | apply Upd.drewN | apply Upd.alloc | refine Upd.setCell ?_ ?_ | refine Upd.call U4 ?_ ?_ | refine Upd.call h ?_ ?_) <;> first | (intro _ _ h; exact h) | (intro _ _ h; exact h.elim) | (intro i h1 h2; exfalso; (try simp only at h2); omega) | (left; rfl) | (right; dsimp only; omega) | (right; omega)) : Upd Non wr w4)
          clear U4
          go_wp2_with fail
          refine (read_none p 2 (.inr rfl) _ HQ4.out).mono ?_
          rintro e w5 ⟨rfl, U5⟩
          have HQ5 := Lib.hid (HQ4.out.upd U5)
          have HU5 := Lib.hid (by have h := HU4.out; ((with_reducible repeat' first | exact Upd.refl _ _ | apply Upd.drew | apply Upd.drewN | apply Upd.alloc | refine Upd.setCell ?_ ?_ | refine Upd.call U5 ?_ ?_ | refine Upd.call h ?_ ?_) <;> first | (intro _ _ h; exact h) | (intro _ _ h; exact h.elim) | (intro i h1 h2; exfalso; (try simp only at h2); omega) | (left; rfl) | (right; dsimp only; omega) | (right; omega)) : Upd Non wr w5)
          clear U5
          go_wp2_with fail
          refine (line_none p _ HQ5.out).mono ?_
          rintro e w6 ⟨rfl, U6⟩
          have HQ6 := Lib.hid (HQ5.out.upd U6)
          have HU6 := Lib.hid (by have h := HU5.out; ((with_reducible repeat' first | exact Upd.refl _ _ | apply Upd.drew | apply Upd.drewN | apply Upd.alloc | refine Upd.setCell ?_ ?_ | refine Upd.call U6 ?_ ?_ | refine Upd.call h ?_ ?_) <;> first | (intro _ _ h; exact h) | (intro _ _ h; exact h.elim) | (intro i h1 h2; exfalso; (try simp only at h2); omega) | (left; rfl) | (right; dsimp only; omega) | (right; omega)) : Upd Non wr w6)
          clear U6
          go_wp2_with fail
          refine (state_none p _ HQ6.out).mono ?_
          rintro e w7 ⟨rfl, U7⟩
          have HU7 := Lib.hid (by have h := HU6.out; ((with_reducible repeat' first | exact Upd.refl _ _ | apply Upd.drew | apply Upd.drewN | apply Upd.alloc | refine Upd.setCell ?_ ?_ | refine Upd.call U7 ?_ ?_ | refine Upd.call h ?_ ?_) <;> first | (intro _ _ h; exact h) | (intro _ _ h; exact h.elim) | (intro i h1 h2; exfalso; (try simp only at h2); omega) | (left; rfl) | (right; dsimp only; omega) | (right; omega)) : Upd Non wr w7)
          have HW7 := Lib.hid (by have h := HU6.out; have h2 := HU.out; ((with_reducible repeat' first | exact Upd.refl _ _ | apply Upd.drew | apply Upd.drewN | apply Upd.alloc | refine Upd.setCell ?_ ?_ | refine Upd.call U7 ?_ ?_ | refine Upd.call h ?_ ?_ | refine Upd.call h2 ?_ ?_) <;> first | (intro _ _ h; exact h) | (intro _ _ h; exact h.elim) | (intro i h1 h2; exfalso; (try simp only at h2); omega) | (left; rfl) | (right; dsimp only; omega) | (right; omega)) : Upd Non w w7)
          clear U7
          go_wp2_with fail
          go_roundw
          case rel => exact ⟨t + 1, by omega, by go_num, Blk.upd HU7.out HB.out id, HU7.out.cell_eq id HN.out, HW7.out⟩
          case measure => simp [intOf]; omega
        have k1 : ¬ (t : Int) < 2 := by omega
        go_wp2_with fail
        refine (awake_spec _).mono ?_
        rintro e w2 ⟨rfl, U2⟩
        go_wp2_with fail
        go_ret
        exact ⟨rfl, by have h := HU.out; ((with_reducible repeat' first | exact Upd.refl _ _ | apply Upd.drew | apply Upd.drewN | apply Upd.alloc | refine Upd.setCell ?_ ?_ | refine Upd.call U2 ?_ ?_ | refine Upd.call h ?_ ?_) <;> first | (intro _ _ h; exact h) | (intro _ _ h; exact h.elim) | (intro i h1 h2; exfalso; (try simp only at h2); omega) | (left; rfl) | (right; dsimp only; omega) | (right; omega))⟩
    have k1 : (t : Int) < 125 := by omega
    go_wp2_with fail
    go_loopw [3] (fun i wr => ∃ q : Nat, q ≤ 9 ∧ i = .int .u32 q ∧ HE w wr be) (fun i _ => 9 - (intOf i).toNat)
    case atStart => exact ⟨0, by omega, rfl, HEE.out⟩
    case round =>
      clear HEE
      obtain ⟨q, hq, rfl, hE⟩ := hrel
      have HEE := Lib.hid hE
      clear hE
      by_cases hlt2 : q < 9
      case neg =>
        have k2 : ¬ (q : Int) < 9 := by omega
        go_wp2_with fail
        go_roundw
        case rel => exact ⟨t + 1, by omega, by go_num, HEE.out⟩
        case measure => simp [intOf]; omega
      have k2 : (q : Int) < 9 := by omega
      have i0 : t % 5 < 5 := by omega
      have i1 : t / 5 % 5 < 5 := by omega
      have i2 : t / 25 < 5 := by omega
      have z1 : (t : Int).tmod 5 = ((t % 5 : Nat) : Int) := emod_nat t 5
      have z2 : (t : Int).tdiv 5 = ((t / 5 : Nat) : Int) := ediv_nat t 5
      have z3 : ((t / 5 : Nat) : Int).tmod 5 = ((t / 5 % 5 : Nat) : Int) := emod_nat (t / 5) 5
      have z4 : (t : Int).tdiv 25 = ((t / 25 : Nat) : Int) := ediv_nat t 25
      have z5 : (t : Int).tmod 12 = ((t % 12 : Nat) : Int) := emod_nat t 12
      have r1 := (ends_at i0).2
      have r2 := (ends_at i1).2
      have r3 := (ends_at i2).2
      have hS0 := SE_of i0 i1 i2 HEE.out
      have f0 : IntKind.i64.wrap ((t / 5 : Nat) : Int) = ((t / 5 : Nat) : Int) := IntWalk.i64_in _ (by omega)
      have f1 : IntKind.i64.wrap ((t % 5 : Nat) : Int) = ((t % 5 : Nat) : Int) := IntWalk.i64_in _ (by omega)
      have f2 : IntKind.i64.wrap ((t / 5 % 5 : Nat) : Int) = ((t / 5 % 5 : Nat) : Int) := IntWalk.i64_in _ (by omega)
      have f3 : IntKind.i64.wrap ((t / 25 : Nat) : Int) = ((t / 25 : Nat) : Int) := IntWalk.i64_in _ (by omega)
      have f4 : IntKind.i64.wrap ((t % 12 : Nat) : Int) = ((t % 12 : Nat) : Int) := IntWalk.i64_in _ (by omega)
      have f5 : IntKind.i64.wrap (((t % 12 : Nat) : Int) - 2) = ((t % 12 : Nat) : Int) - 2 := IntWalk.i64_in _ (by omega)
      have f6 : (t : Int) % 4294967296 = (t : Int) := by omega
      generalize t / 25 = a2 at *
      generalize t % 5 = a0 at *
      generalize t / 5 % 5 = a1 at *
      generalize t / 5 = a5 at *
      generalize t % 12 = a12 at *
      have b0 : (a0 : Int) < 5 := by omega
      have b1 : (a1 : Int) < 5 := by omega
      have b2 : (a2 : Int) < 5 := by omega
      have d0 := hS0.1
      have d1 := hS0.2.1
      have d2 := hS0.2.2.1
      have R1 := Lib.hid r1
      have R2 := Lib.hid r2
      have R3 := Lib.hid r3
      have hbl := HEE.out.1.lt
      have hne0 := World.new_ne wr _ d0
      clear hS0 r1 r2 r3
      have dH := Lib.hid HEE.out
      have hS0 : SE w wr be a0 a1 a2 := ⟨d0, d1, d2, dH⟩
      go_wp2_with fail
      go_region_held3 (fun w' => w'.cell? ⟨be, a0, none⟩ = some (.int .u32 (ev a0)) ∧ w'.cell? ⟨be, a1, none⟩ = some (.int .u32 (ev a1)) ∧ w'.cell? ⟨be, a2, none⟩ = some (.int .u32 (ev a2)) ∧ Hid (HE w w' be)) (first | exact SE_up (by ((with_reducible repeat' first | exact Upd.refl _ _ | apply Upd.drew | apply Upd.drewN | apply Upd.alloc | refine Upd.setCell ?_ ?_) <;> first | (intro _ _ h; exact h) | (intro _ _ h; exact h.elim) | (intro i h1 h2; exfalso; (try simp only at h2); omega) | (left; rfl) | (right; dsimp only; omega) | (right; omega))) hS0) (fail)
      rename_i hS
      have HE8 := Lib.hid hS.2.2.2.out
      clear hS
      go_wp2_with fail
      refine (does_law (ev a0) (ev a1) q (ev a2) R1.out R2.out ⟨by omega, by omega⟩ R3.out (some ⟨wr.heap.size + 1, 0, none⟩) 8 8 (fun j => [2, 2, 2, 0, 2, 0, 0, 2].getD j 0) (fun j => [0, 0, 0, (a12 : Int) - 2, 0, 3, 2, 0].getD j 0) (fun j => [1, 1, 1, 0, 3, 0, 0, 2].getD j 0) (fun j => [0, 0, 0, (t : Int), 0, 1, 4294967295, 0].getD j 0) _ ?hd8).mono ?_
      case hd8 =>
        intro _
        refine ⟨_, 0, rfl, fun j hj => ?_⟩
        have key : ∀ W : World, Blk W (wr.heap.size + 1) #[.int .i64 2, .int .i64 0, .int .i64 1, .int .u32 0, .int .i64 2, .int .i64 0, .int .i64 1, .int .u32 0, .int .i64 2, .int .i64 0, .int .i64 1, .int .u32 0, .int .i64 0, .int .i64 ((a12 : Int) - 2), .int .i64 0, .int .u32 (t : Int), .int .i64 2, .int .i64 0, .int .i64 3, .int .u32 0, .int .i64 0, .int .i64 3, .int .i64 0, .int .u32 1, .int .i64 0, .int .i64 2, .int .i64 0, .int .u32 4294967295, .int .i64 2, .int .i64 0, .int .i64 2, .int .u32 0] 69 → W.cell? ⟨wr.heap.size + 1, 0 + j * 4, none⟩ = some (.int .i64 ([2, 2, 2, 0, 2, 0, 0, 2].getD j 0)) ∧ W.cell? ⟨wr.heap.size + 1, 0 + j * 4 + 1, none⟩ = some (.int .i64 ([0, 0, 0, (a12 : Int) - 2, 0, 3, 2, 0].getD j 0)) ∧ W.cell? ⟨wr.heap.size + 1, 0 + j * 4 + 2, none⟩ = some (.int .i64 ([1, 1, 1, 0, 3, 0, 0, 2].getD j 0)) ∧ W.cell? ⟨wr.heap.size + 1, 0 + j * 4 + 3, none⟩ = some (.int .u32 ([0, 0, 0, (t : Int), 0, 1, 4294967295, 0].getD j 0)) ∧ 0 ≤ [0, 0, 0, (t : Int), 0, 1, 4294967295, 0].getD j 0 ∧ [0, 0, 0, (t : Int), 0, 1, 4294967295, 0].getD j 0 ≤ 4294967295 := by
          intro W hb
          rcases (show j = 0 ∨ j = 1 ∨ j = 2 ∨ j = 3 ∨ j = 4 ∨ j = 5 ∨ j = 6 ∨ j = 7 by omega) with rfl | rfl | rfl | rfl | rfl | rfl | rfl | rfl
          all_goals exact ⟨hb.cell _ rfl, hb.cell _ rfl, hb.cell _ rfl, hb.cell _ rfl, by show (0 : Int) ≤ _; simp, by show (_ : Int) ≤ _; simp; try omega⟩
        exact key _ (Blk.drew (Blk.newAt (by simp)))
      rintro e w9 ⟨rfl, U9⟩
      have HE9 := Lib.hid (show HE w w9 be from ⟨Blk.upd U9 (by have h := HEE.out.1; ((with_reducible repeat' first | apply Blk.drew | apply Blk.drewN | apply Blk.alloc | apply Blk.set | refine Blk.set_ne ?_ ?_) <;> first | with_reducible exact h | omega | (dsimp only; omega))) id, by have h := HEE.out.2; ((with_reducible repeat' first | exact Upd.refl _ _ | apply Upd.drew | apply Upd.drewN | apply Upd.alloc | refine Upd.setCell ?_ ?_ | refine Upd.call U9 ?_ ?_ | refine Upd.call h ?_ ?_) <;> first | (intro _ _ h; exact h) | (intro _ _ h; exact h.elim) | (intro i h1 h2; exfalso; (try simp only at h2); omega) | (left; rfl) | (right; dsimp only; omega) | (right; omega))⟩)
      clear U9 HE8
      go_wp2_with fail
      go_roundw
      case rel => exact ⟨q + 1, by omega, by first | go_num | exact congrArg (Value.int .u32) (by omega), HE9.out⟩
      case measure => simp [intOf]; omega
end Go.Proofs.Ytmblplhehbdocaa
