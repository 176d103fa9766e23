/- RotorEnds: the law's walk. No condition. -/
import Derived.Test.YtnmbkhofikbcjaaRotorLaw
import Derived.Test.YtnmbkhofikbcjaaRotorOthers
import Derived.Test.YtnmbkhofikbcjaaRotorNil
namespace Go.Proofs.Ytnmbkhofikbcjaa
open Go.RowKit Flt

theorem ten_quo (t : Nat) : (t : Int).tdiv 10 = ((t / 10 : Nat) : Int) := by rw [Int.tdiv_eq_ediv_of_nonneg (by omega)]; rfl
theorem ten_rem (t : Nat) : (t : Int).tmod 10 = ((t % 10 : Nat) : Int) := by rw [Int.tmod_eq_emod_of_nonneg (by omega)]; rfl
def dR (j : Nat) : Int := [-9223372036854775808, -1, 4, 9223372036854775807, 0, 2, 1, 3].getD j 0
def dV (j : Nat) : Int := [1, 1, 9, 1, 4294967295, 4294967295, 2147483648, 4294967295].getD j 0

set_option maxRecDepth 100000 in
set_option maxHeartbeats 16000000 in
theorem ends_law (w : World) : Calls Try.prog 12 #[] w fun e w' => e = .returned (.bool true) ∧ Upd Non w w' := by
  go_enter Try.func12, Try.ntmps12
  go_wp2_with fail
  obtain ⟨bp, hbp⟩ : ∃ b, b = w.heap.size := ⟨_, rfl⟩
  have hU0 := Lib.hid (by ((with_reducible repeat' first | exact Upd.refl _ _ | apply Upd.drew | apply Upd.drewN | apply Upd.alloc | refine Upd.setCell ?_ ?_) <;> first | (intro _ _ h; exact h) | (intro _ _ h; exact h.elim) | (intro i h1 h2; exfalso; (try simp only at h2); omega) | (left; rfl) | (right; dsimp only; omega) | (right; omega)) : Upd Non w (w.alloc (.cells partsV 29)))
  have hP0 := Lib.hid (hbp ▸ Blk.new w partsV 29)
  have hbw : w.heap.size ≤ bp := by omega
  have hone : one = 4607182418800017408 := rfl
  rw [← hbp]
  clear hbp
  go_loopw [2] (fun i wr => ∃ t : Nat, t ≤ 100 ∧ i = .int .i64 t ∧ Blk wr bp partsV 29 ∧ Upd Non w wr) (fun i _ => 100 - (intOf i).toNat)
  case atStart => exact ⟨0, by omega, rfl, hP0.out, hU0.out⟩
  case round =>
    clear hP0 hU0
    obtain ⟨t, ht, rfl, hp, hu⟩ := hrel
    have HP := Lib.hid hp
    have HU := Lib.hid hu
    clear hp hu
    by_cases hlt : t < 100
    case neg =>
      have k1 : ¬ (t : Int) < 100 := by omega
      have hd0 := q_inf
      have hd1 := q_minf
      have hd2 := q_nan
      go_wp2_with fail
      obtain ⟨x, hx⟩ : ∃ x, x = wr.tape wr.drawn (Question.nanBits .f64 0 0) := ⟨_, rfl⟩
      obtain ⟨bb, hbb⟩ : ∃ b, b = wr.heap.size := ⟨_, rfl⟩
      have hB0 := Lib.hid (hbb ▸ Blk.new wr (badV (nanW x)) 40 : Blk (wr.alloc (.cells (badV (nanW x)) 40)) bb (badV (nanW x)) 40)
      have hU0 := Lib.hid (by ((with_reducible repeat' first | exact Upd.refl _ _ | apply Upd.drew | apply Upd.drewN | apply Upd.alloc | refine Upd.setCell ?_ ?_ | refine Upd.call HU.out ?_ ?_) <;> first | (intro _ _ h; exact h) | (intro _ _ h; exact h.elim) | (intro i h1 h2; exfalso; (try simp only at h2); omega) | (left; rfl) | (right; dsimp only; omega) | (right; omega)) : Upd Non w (wr.alloc (.cells (badV (nanW x)) 40)).drew)
      rw [← hx, ← hbb]
      clear hx hbb HP HU hd0 hd1 hd2
      have hcx := rComplex
      go_loopw [7] (fun i wr => ∃ t : Nat, t ≤ 11 ∧ i = .int .i64 t ∧ Blk wr bb (badV (nanW x)) 40 ∧ Upd Non w wr) (fun i _ => 11 - (intOf i).toNat)
      case atStart => exact ⟨0, by omega, rfl, hB0.out, hU0.out⟩
      case round =>
        clear hB0 hU0 ht hlt k1
        obtain ⟨t, ht, rfl, hp, hu⟩ := hrel
        have HB := Lib.hid hp
        have HU := Lib.hid hu
        clear hp hu
        by_cases hlt : t < 11
        case pos =>
          have k1 : (t : Int) < 11 := by omega
          have ba := bad_at x hlt
          have c1 := HB.out.cell t ba.1
          have HN := Lib.hid ba.2
          clear ba
          generalize bv (nanW x) t = y at *
          go_wp2_with fail
          refine (none_spec y 4607182418800017408 5 HN.out.1 (by decide) _).mono ?_
          rintro e w1 ⟨rfl, U1⟩
          have c2 := U1.cell_eq id c1
          have HB1 := Lib.hid (Blk.upd U1 HB.out id)
          have HU1 := Lib.hid (by ((with_reducible repeat' first | exact Upd.refl _ _ | apply Upd.drew | apply Upd.drewN | apply Upd.alloc | refine Upd.setCell ?_ ?_ | refine Upd.call U1 ?_ ?_ | refine Upd.call HU.out ?_ ?_) <;> first | (intro _ _ h; exact h) | (intro _ _ h; exact h.elim) | (intro i h1 h2; exfalso; (try simp only at h2); omega) | (left; rfl) | (right; dsimp only; omega) | (right; omega)) : Upd Non w w1)
          clear U1
          go_wp2_with fail
          refine (none_spec 4607182418800017408 y 5 HN.out.2 (by decide) _).mono ?_
          rintro e w2 ⟨rfl, U2⟩
          have HB2 := Lib.hid (Blk.upd U2 HB1.out id)
          have HU2 := Lib.hid (by ((with_reducible repeat' first | exact Upd.refl _ _ | apply Upd.drew | apply Upd.drewN | apply Upd.alloc | refine Upd.setCell ?_ ?_ | refine Upd.call U2 ?_ ?_ | refine Upd.call HU1.out ?_ ?_) <;> first | (intro _ _ h; exact h) | (intro _ _ h; exact h.elim) | (intro i h1 h2; exfalso; (try simp only at h2); omega) | (left; rfl) | (right; dsimp only; omega) | (right; omega)) : Upd Non w w2)
          clear U2
          go_wp2_with fail
          go_roundw
          case rel => exact ⟨t + 1, by omega, by go_num, HB2.out, HU2.out⟩
          case measure => simp [intOf]; omega
        have k1 : ¬ (t : Int) < 11 := by omega
        go_wp2_with fail
        obtain ⟨br, hbr⟩ : ∃ b, b = wr.heap.size := ⟨_, rfl⟩
        rw [← hbr]
        have hn0 : (((wr.alloc (Obj.cells #[Value.complex FloatKind.f64 0 0, Value.int IntKind.u32 0, Value.bool false] 87)).alloc (Obj.cells #[Value.pointer none, Value.pointer (some { block := br, off := 0 })] 71))).cell? ⟨br, 2, none⟩ = some (.bool false) :=
          (Blk.alloc (hbr ▸ Blk.new wr _ 87)).cell 2 rfl
        have hN0 := Lib.hid hn0
        have hB0 := Lib.hid (Blk.newAt (w := wr.alloc (Obj.cells #[Value.complex FloatKind.f64 0 0, Value.int IntKind.u32 0, Value.bool false] 87)) (n := br + 1) (c := #[Value.pointer none, Value.pointer (some { block := br, off := 0 })]) (t := 71) (by rw [World.size_alloc, hbr]))
        have hU0 := Lib.hid (by ((with_reducible repeat' first | exact Upd.refl _ _ | apply Upd.drew | apply Upd.drewN | apply Upd.alloc | refine Upd.setCell ?_ ?_ | refine Upd.call HU.out ?_ ?_) <;> first | (intro _ _ h; exact h) | (intro _ _ h; exact h.elim) | (intro i h1 h2; exfalso; (try simp only at h2); omega) | (left; rfl) | (right; dsimp only; omega) | (right; omega)) : Upd Non w ((wr.alloc (Obj.cells #[Value.complex FloatKind.f64 0 0, Value.int IntKind.u32 0, Value.bool false] 87)).alloc (Obj.cells #[Value.pointer none, Value.pointer (some { block := br, off := 0 })] 71)))
        clear hbr HB HU hn0
        go_loopw [9] (fun i wr => ∃ t : Nat, t ≤ 2 ∧ i = .int .i64 t ∧ Blk wr (br + 1) #[.pointer none, .pointer (some ⟨br, 0, none⟩)] 71 ∧ wr.cell? ⟨br, 2, none⟩ = some (.bool false) ∧ Upd Non w wr) (fun i _ => 2 - (intOf i).toNat)
        case atStart => exact ⟨0, by omega, rfl, hB0.out, hN0.out, hU0.out⟩
        case round =>
          clear hB0 hU0 hN0 ht hlt k1
          obtain ⟨t, ht, rfl, hp, hn, hu⟩ := hrel
          have HB := Lib.hid hp
          have HN := Lib.hid hn
          have HU := Lib.hid hu
          clear hp hu hn
          by_cases hlt : t < 2
          case pos =>
            have k1 : (t : Int) < 2 := by omega
            obtain ⟨p, hp, hn⟩ : ∃ p, (#[.pointer none, .pointer (some ⟨br, 0, none⟩)] : Array Value)[t]? = some p ∧ NoRot wr p := by
              rcases (show t = 0 ∨ t = 1 by omega) with rfl | rfl
              · exact ⟨_, rfl, .inl rfl⟩
              · exact ⟨_, rfl, .inr ⟨br, rfl, HN.out⟩⟩
            have c1 := HB.out.cell t hp
            have HQ := Lib.hid hn
            clear hp hn
            go_wp2_with fail
            refine (write_none p 0 5 _ HQ.out).mono ?_
            rintro e w1 ⟨rfl, U1⟩
            have HQ1 := Lib.hid (HQ.out.upd U1)
            have HU1 := Lib.hid (by ((with_reducible repeat' first | exact Upd.refl _ _ | apply Upd.drew | apply Upd.drewN | apply Upd.alloc | refine Upd.setCell ?_ ?_ | refine Upd.call U1 ?_ ?_ | refine Upd.call HU.out ?_ ?_) <;> first | (intro _ _ h; exact h) | (intro _ _ h; exact h.elim) | (intro i h1 h2; exfalso; (try simp only at h2); omega) | (left; rfl) | (right; dsimp only; omega) | (right; omega)) : Upd Non wr w1)
            clear U1
            go_wp2_with fail
            refine (write_none p 1 5 _ HQ1.out).mono ?_
            rintro e w2 ⟨rfl, U2⟩
            have HQ2 := Lib.hid (HQ1.out.upd U2)
            have HU2 := Lib.hid (by ((with_reducible repeat' first | exact Upd.refl _ _ | apply Upd.drew | apply Upd.drewN | apply Upd.alloc | refine Upd.setCell ?_ ?_ | refine Upd.call U2 ?_ ?_ | refine Upd.call HU1.out ?_ ?_) <;> first | (intro _ _ h; exact h) | (intro _ _ h; exact h.elim) | (intro i h1 h2; exfalso; (try simp only at h2); omega) | (left; rfl) | (right; dsimp only; omega) | (right; omega)) : Upd Non wr w2)
            clear U2
            go_wp2_with fail
            refine (state_none p _ HQ2.out).mono ?_
            rintro e w3 ⟨rfl, U3⟩
            have HQ3 := Lib.hid (HQ2.out.upd U3)
            have HU3 := Lib.hid (by ((with_reducible repeat' first | exact Upd.refl _ _ | apply Upd.drew | apply Upd.drewN | apply Upd.alloc | refine Upd.setCell ?_ ?_ | refine Upd.call U3 ?_ ?_ | refine Upd.call HU2.out ?_ ?_) <;> first | (intro _ _ h; exact h) | (intro _ _ h; exact h.elim) | (intro i h1 h2; exfalso; (try simp only at h2); omega) | (left; rfl) | (right; dsimp only; omega) | (right; omega)) : Upd Non wr w3)
            clear U3
            go_wp2_with fail
            refine (read_none p 0 _ HQ3.out).mono ?_
            rintro e w4 ⟨rfl, U4⟩
            have HQ4 := Lib.hid (HQ3.out.upd U4)
            have HU4 := Lib.hid (by ((with_reducible repeat' first | exact Upd.refl _ _ | apply Upd.drew | apply Upd.drewN | apply Upd.alloc | refine Upd.setCell ?_ ?_ | refine Upd.call U4 ?_ ?_ | refine Upd.call HU3.out ?_ ?_) <;> first | (intro _ _ h; exact h) | (intro _ _ h; exact h.elim) | (intro i h1 h2; exfalso; (try simp only at h2); omega) | (left; rfl) | (right; dsimp only; omega) | (right; omega)) : Upd Non wr w4)
            clear U4
            go_wp2_with fail
            refine (read_none p 4 _ HQ4.out).mono ?_
            rintro e w5 ⟨rfl, U5⟩
            have HQ5 := Lib.hid (HQ4.out.upd U5)
            have HU5 := Lib.hid (by ((with_reducible repeat' first | exact Upd.refl _ _ | apply Upd.drew | apply Upd.drewN | apply Upd.alloc | refine Upd.setCell ?_ ?_ | refine Upd.call U5 ?_ ?_ | refine Upd.call HU4.out ?_ ?_) <;> first | (intro _ _ h; exact h) | (intro _ _ h; exact h.elim) | (intro i h1 h2; exfalso; (try simp only at h2); omega) | (left; rfl) | (right; dsimp only; omega) | (right; omega)) : Upd Non wr w5)
            clear U5
            go_wp2_with fail
            refine (copy_none p _ HQ5.out).mono ?_
            rintro e w6 ⟨rfl, U6⟩
            have HU6 := Lib.hid (by ((with_reducible repeat' first | exact Upd.refl _ _ | apply Upd.drew | apply Upd.drewN | apply Upd.alloc | refine Upd.setCell ?_ ?_ | refine Upd.call U6 ?_ ?_ | refine Upd.call HU5.out ?_ ?_) <;> first | (intro _ _ h; exact h) | (intro _ _ h; exact h.elim) | (intro i h1 h2; exfalso; (try simp only at h2); omega) | (left; rfl) | (right; dsimp only; omega) | (right; omega)) : Upd Non wr w6)
            have HW6 := Lib.hid (by ((with_reducible repeat' first | exact Upd.refl _ _ | apply Upd.drew | apply Upd.drewN | apply Upd.alloc | refine Upd.setCell ?_ ?_ | refine Upd.call U6 ?_ ?_ | refine Upd.call HU5.out ?_ ?_ | refine Upd.call HU.out ?_ ?_) <;> first | (intro _ _ h; exact h) | (intro _ _ h; exact h.elim) | (intro i h1 h2; exfalso; (try simp only at h2); omega) | (left; rfl) | (right; dsimp only; omega) | (right; omega)) : Upd Non w w6)
            clear U6
            go_wp2_with fail
            go_roundw
            case rel => exact ⟨t + 1, by omega, by go_num, Blk.upd HU6.out HB.out id, HU6.out.cell_eq id HN.out, HW6.out⟩
            case measure => simp [intOf]; omega
          have k1 : ¬ (t : Int) < 2 := by omega
          go_wp2_with fail
          refine (does_some (some ⟨wr.heap.size, 0, none⟩) 8 8 dR dV (by decide) _ ?hc).mono ?_
          case hc =>
            intro _
            refine ⟨_, 0, rfl, fun j hj => ?_⟩
            have hb := Blk.new wr #[.int .i64 (-9223372036854775808), .int .u32 1, .int .i64 (-1), .int .u32 1, .int .i64 4, .int .u32 9, .int .i64 9223372036854775807, .int .u32 1, .int .i64 0, .int .u32 4294967295, .int .i64 2, .int .u32 4294967295, .int .i64 1, .int .u32 2147483648, .int .i64 3, .int .u32 4294967295] 77
            rcases (show j = 0 ∨ j = 1 ∨ j = 2 ∨ j = 3 ∨ j = 4 ∨ j = 5 ∨ j = 6 ∨ j = 7 by omega) with rfl | rfl | rfl | rfl | rfl | rfl | rfl | rfl
            all_goals exact ⟨hb.cell _ rfl, hb.cell _ rfl, by decide, by decide⟩
          rintro e w1 ⟨rfl, U1⟩
          have HU1 := Lib.hid (by ((with_reducible repeat' first | exact Upd.refl _ _ | apply Upd.drew | apply Upd.drewN | apply Upd.alloc | refine Upd.setCell ?_ ?_ | refine Upd.call U1 ?_ ?_ | refine Upd.call HU.out ?_ ?_) <;> first | (intro _ _ h; exact h) | (intro _ _ h; exact h.elim) | (intro i h1 h2; exfalso; (try simp only at h2); omega) | (left; rfl) | (right; dsimp only; omega) | (right; omega)) : Upd Non w w1)
          clear U1
          go_wp2_with fail
          refine (awake_spec _).mono ?_
          rintro e w2 ⟨rfl, U2⟩
          have HU2 := Lib.hid (by ((with_reducible repeat' first | exact Upd.refl _ _ | apply Upd.drew | apply Upd.drewN | apply Upd.alloc | refine Upd.setCell ?_ ?_ | refine Upd.call U2 ?_ ?_ | refine Upd.call HU1.out ?_ ?_) <;> first | (intro _ _ h; exact h) | (intro _ _ h; exact h.elim) | (intro i h1 h2; exfalso; (try simp only at h2); omega) | (left; rfl) | (right; dsimp only; omega) | (right; omega)) : Upd Non w w2)
          clear U2
          go_wp2_with fail
          go_ret
          exact ⟨rfl, HU2.out⟩
    have k1 : (t : Int) < 100 := by omega
    have p1 := HP.out.cell (t % 10) (parts_at (Nat.mod_lt _ (by decide))).1
    have p2 := HP.out.cell (t / 10) (parts_at (by omega)).1
    have z1 := ten_rem t
    have z2 := ten_quo t
    have z3 : IntKind.i64.wrap ((t % 10 : Nat) : Int) = ((t % 10 : Nat) : Int) := IntWalk.i64_in _ (by omega)
    have z4 : IntKind.i64.wrap ((t / 10 : Nat) : Int) = ((t / 10 : Nat) : Int) := IntWalk.i64_in _ (by omega)
    have b0 : t % 10 < 10 := by omega
    have b1 : t / 10 < 10 := by omega
    generalize t % 10 = t0 at *
    generalize t / 10 = t1 at *
    have b0' : (t0 : Int) < 10 := by omega
    have b1' : (t1 : Int) < 10 := by omega
    go_wp2_with fail
    go_region
    clear p1 p2 z1 z2 z3 z4 b0 b1 b0' b1'
    have hv : 0 ≤ (pv t0 + 65536 * pv t1 % 4294967296) % 4294967296 ∧ (pv t0 + 65536 * pv t1 % 4294967296) % 4294967296 ≤ 4294967295 := by omega
    generalize (pv t0 + 65536 * pv t1 % 4294967296) % 4294967296 = v at *
    have HV := Lib.hid hv
    clear hv
    go_wp2_with fail
    go_loopw [4] (fun i wr => ∃ k : Nat, k ≤ 100 ∧ i = .int .i64 k ∧ Blk wr bp partsV 29 ∧ Upd Non w wr) (fun i _ => 100 - (intOf i).toNat)
    case atStart => exact ⟨0, by omega, rfl, by ((with_reducible repeat' first | apply Blk.drew | apply Blk.drewN | apply Blk.alloc | apply Blk.set | refine Blk.set_ne ?_ ?_) <;> first | with_reducible exact HP.out | omega | (dsimp only; omega)), HU.out.drew⟩
    case round =>
      clear HP HU
      obtain ⟨k, hk, rfl, hp, hu⟩ := hrel
      have HP := Lib.hid hp
      have HU := Lib.hid hu
      clear hp hu
      by_cases hkt : k < 100
      case neg =>
        have k2 : ¬ (k : Int) < 100 := by omega
        go_wp2_with fail
        go_roundw
        case rel => exact ⟨t + 1, by omega, by go_num, HP.out, HU.out⟩
        case measure => simp [intOf]; omega
      have k2 : (k : Int) < 100 := by omega
      have p1 := HP.out.cell (k % 10) (parts_at (Nat.mod_lt _ (by decide))).1
      have p2 := HP.out.cell (k / 10) (parts_at (by omega)).1
      have z1 := ten_rem k
      have z2 := ten_quo k
      have z3 : IntKind.i64.wrap ((k % 10 : Nat) : Int) = ((k % 10 : Nat) : Int) := IntWalk.i64_in _ (by omega)
      have z4 : IntKind.i64.wrap ((k / 10 : Nat) : Int) = ((k / 10 : Nat) : Int) := IntWalk.i64_in _ (by omega)
      have b0 : k % 10 < 10 := by omega
      have b1 : k / 10 < 10 := by omega
      generalize k % 10 = k0 at *
      generalize k / 10 = k1 at *
      have b0' : (k0 : Int) < 10 := by omega
      have b1' : (k1 : Int) < 10 := by omega
      go_wp2_with fail
      go_region_with (go_at_call 19; refine (points_spec v _ _ HV.out (wrapU_range _) (wrapU_range _) _).mono ?_; rintro e w1 ⟨rfl, U1⟩)
      all_goals
        have HP1 := Lib.hid (Blk.upd U1 (by ((with_reducible repeat' first | apply Blk.drew | apply Blk.drewN | apply Blk.alloc | apply Blk.set | refine Blk.set_ne ?_ ?_) <;> first | with_reducible exact HP.out | omega | (dsimp only; omega))) id : Blk w1 bp partsV 29)
        have HU1 := Lib.hid (by ((with_reducible repeat' first | exact Upd.refl _ _ | apply Upd.drew | apply Upd.drewN | apply Upd.alloc | refine Upd.setCell ?_ ?_ | refine Upd.call U1 ?_ ?_ | refine Upd.call HU.out ?_ ?_) <;> first | (intro _ _ h; exact h) | (intro _ _ h; exact h.elim) | (intro i h1 h2; exfalso; (try simp only at h2); omega) | (left; rfl) | (right; dsimp only; omega) | (right; omega)) : Upd Non w w1)
        clear U1
        go_wp2_with fail
        go_roundw
        case rel => exact ⟨k + 1, by omega, by go_num, HP1.out, HU1.out⟩
        case measure => simp [intOf]; omega
end Go.Proofs.Ytnmbkhofikbcjaa
