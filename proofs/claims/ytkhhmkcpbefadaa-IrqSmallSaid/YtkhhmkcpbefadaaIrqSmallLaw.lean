/- IrqSmall: the law's walk. No condition. -/
import Derived.Test.YtkhhmkcpbefadaaIrqDD
import Derived.Test.YtkhhmkcpbefadaaIrqNone
import Derived.IntWalk
import Derived.Deep.RegionHeld3
import Derived.Deep.DeepCutAuto
namespace Go.Proofs.Ytkhhmkcpbefadaa
open Go.RowKit
theorem Try.info45 : (Try.prog.info? 45).map (fun i => (i.zero, i.size, i.bytes)) = some (some (.agg #[.int .i64 0, .int .i64 0, .int .i64 0, .slice none 0 0]), 4, 48) := by kernel_rfl
/-- The six deeds. -/
def six (g1 g2 : Nat) : List DD := [⟨0, 0, 0, some ⟨g1, 0, none⟩, 1, 1⟩, ⟨0, 0, 0, some ⟨g2, 0, none⟩, 1, 1⟩, ⟨1, 0, 2, none, 0, 0⟩, ⟨3, 0, 5, none, 0, 0⟩, ⟨5, 0, 2, none, 0, 0⟩, ⟨2, 0, 0, none, 0, 0⟩]
set_option maxRecDepth 100000 in
set_option maxHeartbeats 16000000 in
theorem small_law (w : World) : Calls Try.prog 7 #[] w fun e w' => e = .returned (.bool true) ∧ Upd Non w w' := by
  go_enter Try.func7, Try.ntmps7
  go_wp2_with fail
  refine (one_is 2 5 w).mono ?_
  rintro e w0 ⟨rfl, U0⟩
  obtain ⟨w1, hw1⟩ : ∃ x, x = w0.alloc (.cells #[.int .i64 0, .int .u32 0, .int .i64 0, .int .i64 2, .int .i64 5] 31) := ⟨_, rfl⟩
  obtain ⟨gd, hgd⟩ : ∃ x, x = w0.heap.size := ⟨_, rfl⟩
  have HD := Lib.hid (show Blk w1 gd (dvL [⟨0, 0, 0, 2, 5⟩]).toArray 31 by rw [hw1]; exact Blk.newAt hgd)
  have HU1 := Lib.hid (show Upd Non w w1 by rw [hw1]; exact U0.alloc)
  go_wp2_with fail
  rw [← hw1, ← hgd]
  clear U0 hw1 hgd
  go_loopw [2] (fun i wr => ∃ t : Nat, t ≤ 7776 ∧ i = .int .i64 t ∧ Upd Non w1 wr) (fun i _ => 7776 - (intOf i).toNat)
  case atStart => exact ⟨0, by omega, rfl, Upd.refl _ _⟩
  case round =>
    obtain ⟨t, ht, rfl, hU⟩ := hrel
    have HU := Lib.hid hU
    clear hU
    by_cases hlt : t < 7776
    case pos =>
      have k1 : (t : Int) < 7776 := by omega
      go_wp2_with fail
      go_loopw [3, 4, 5, 6] (fun v m k z wx => ∃ (q M : Nat) (l : List DD), q ≤ 5 ∧ M ≤ 10000 ∧ l.length = q ∧ k = .int .i64 q ∧ m = .int .i64 M ∧ wx.ownsRow w1.heap.size 45 4 v q (dencL l) ∧ (∀ x ∈ l, LvB wx x) ∧ Upd Non w1 wx) (fun _ _ k _ _ => 5 - (intOf k).toNat)
      case atStart => exact ⟨0, t, [], by omega, by omega, rfl, rfl, rfl, World.ownsRow_nil _ _ _ _, (fun x h => by cases h), HU.out⟩
      case round =>
        clear HU k1
        obtain ⟨q, M, l, hq, hM, hl, rfl, rfl, ho, hlv, hU⟩ := hrel
        have HO := Lib.hid ho
        have HL := Lib.hid hlv
        have HU := Lib.hid hU
        have hzz := hU.size
        clear ho hlv hU
        by_cases hlt2 : q < 5
        case pos =>
          have k2 : (q : Int) < 5 := by omega
          go_upto_region 11 with fail
          obtain ⟨w3, hw3⟩ : ∃ x, x = ((wr.alloc (.cells #[.bool true] 4)).alloc (.cells #[.bool false] 4)).alloc (.cells #[.int .i64 0, .int .i64 0, .int .i64 0, .slice (some ⟨wr.heap.size, 0, none⟩) 1 1, .int .i64 0, .int .i64 0, .int .i64 0, .slice (some ⟨wr.heap.size + 1, 0, none⟩) 1 1, .int .i64 1, .int .i64 0, .int .i64 2, .slice none 0 0, .int .i64 3, .int .i64 0, .int .i64 5, .slice none 0 0, .int .i64 5, .int .i64 0, .int .i64 2, .slice none 0 0, .int .i64 2, .int .i64 0, .int .i64 0, .slice none 0 0] 45) := ⟨_, rfl⟩
          obtain ⟨g1, hg1⟩ : ∃ x, x = wr.heap.size := ⟨_, rfl⟩
          obtain ⟨g2, hg2⟩ : ∃ x, x = wr.heap.size + 1 := ⟨_, rfl⟩
          obtain ⟨g3, hg3⟩ : ∃ x, x = wr.heap.size + 1 + 1 := ⟨_, rfl⟩
          have HB3 := Lib.hid (show Blk w3 g3 (dencL (six g1 g2)).toArray 45 by rw [hw3, hg1, hg2]; exact Blk.newAt (by rw [World.size_alloc, World.size_alloc]; exact hg3))
          have b1 : Blk w3 g1 #[.bool true] 4 := by rw [hw3]; exact Blk.alloc (Blk.alloc (Blk.newAt hg1))
          have b2 : Blk w3 g2 #[.bool false] 4 := by rw [hw3]; exact Blk.alloc (Blk.newAt (by rw [World.size_alloc]; exact hg2))
          have HL3 := Lib.hid (show ∀ x ∈ six g1 g2, LvB w3 x by
            intro x hx
            simp only [six, List.mem_cons, List.not_mem_nil, or_false] at hx
            rcases hx with rfl | rfl | rfl | rfl | rfl | rfl
            · exact lvb1 b1
            · exact lvb1 b2
            all_goals exact LvB.zero rfl)
          have hU3 : Upd Non wr w3 := by rw [hw3]; ((with_reducible repeat' first | exact Upd.refl _ _ | apply Upd.drew | apply Upd.drewN | apply Upd.alloc | refine Upd.setCell ?_ ?_) <;> first | (intro _ _ h; exact h) | (intro _ _ h; exact h.elim) | (intro i h1 h2; exfalso; (try simp only at h2); omega) | (left; rfl) | (right; dsimp only; omega) | (right; omega))
          have HU3 := Lib.hid hU3
          rw [← hw3, ← hg3, ← hg2, ← hg1]
          obtain ⟨x, hx⟩ : ∃ x, (six g1 g2)[M % 6]? = some x := ⟨_, List.getElem?_eq_getElem (by show M % 6 < 6; omega)⟩
          have HX := Lib.hid (HL3.out x (List.mem_of_getElem? hx))
          have key : ∀ k u, k < 4 → x.enc[k]? = some u → w3.cell? ⟨g3, M % 6 * 4 + k, none⟩ = some u := fun k u hk hu => HB3.out.cell _ (by have := (dencL_at _ _ x hx k hk).trans hu; simpa using this)
          have c0 : w3.cell? ⟨g3, M % 6 * 4, none⟩ = some (.int .i64 x.H) := key 0 _ (by decide) rfl
          have c1 : w3.cell? ⟨g3, M % 6 * 4 + 1, none⟩ = some (.int .i64 x.N) := key 1 _ (by decide) rfl
          have c2 : w3.cell? ⟨g3, M % 6 * 4 + 2, none⟩ = some (.int .i64 x.K) := key 2 _ (by decide) rfl
          have c3 : w3.cell? ⟨g3, M % 6 * 4 + 3, none⟩ = some (.slice x.A x.n x.c) := key 3 _ (by decide) rfl
          clear hw3 hg1 hg2 hg3 b1 b2 hx key hU3
          go_upto_region 12 with (at_builtin; refine wpList_gappend rfl _ _ 42 rfl 45 _ 4 48 Try.underlying42 Try.info45 rfl (by decide) rfl (own_upd (S := Non) (by have h := HU3.out; ((with_reducible repeat' first | exact Upd.refl _ _ | apply Upd.drew | apply Upd.drewN | apply Upd.alloc | refine Upd.setCell ?_ ?_ | refine Upd.call h ?_ ?_) <;> first | (intro _ _ h; exact h) | (intro _ _ h; exact h.elim) | (intro i h1 h2; exfalso; (try simp only at h2); omega) | (left; rfl) | (right; dsimp only; omega) | (right; omega))) HO.out (fun _ _ => id)) w3.heap.size x.enc.toArray 45 rfl (Blk.new _ _ _) rfl rfl (by omega) (by omega) (by have := HU3.out.size; rw [World.size_alloc]; omega) ?_; intro v' w4 h1 h2 h3)
          have hO3 : (w3.alloc (.cells x.enc.toArray 45)).ownsRow w1.heap.size 45 4 u3 q (dencL l) := own_upd (S := Non) (by have h := HU3.out; ((with_reducible repeat' first | exact Upd.refl _ _ | apply Upd.drew | apply Upd.drewN | apply Upd.alloc | refine Upd.setCell ?_ ?_ | refine Upd.call h ?_ ?_) <;> first | (intro _ _ h; exact h) | (intro _ _ h; exact h.elim) | (intro i h1 h2; exfalso; (try simp only at h2); omega) | (left; rfl) | (right; dsimp only; omega) | (right; omega))) HO.out (fun _ _ => id)
          have hU3' : Upd Non w1 (w3.alloc (.cells x.enc.toArray 45)) := by have h := HU3.out; have h' := HU.out; exact Upd.call (by ((with_reducible repeat' first | exact Upd.refl _ _ | apply Upd.drew | apply Upd.drewN | apply Upd.alloc | refine Upd.setCell ?_ ?_ | refine Upd.call h ?_ ?_) <;> first | (intro _ _ h; exact h) | (intro _ _ h; exact h.elim) | (intro i h1 h2; exfalso; (try simp only at h2); omega) | (left; rfl) | (right; dsimp only; omega) | (right; omega)) : Upd Non wr (w3.alloc (.cells x.enc.toArray 45))) h' fun _ _ h => h
          have HU4 := Lib.hid (Upd.grown h2 hU3' (fun r hr => .inr (own_block hO3 r hr).1))
          have HL4 := Lib.hid (show ∀ y ∈ l ++ [x], LvB w4 y by
            intro y hy
            rcases List.mem_append.1 hy with hy | hy
            · exact ((HL.out y hy).non (by have h := HU3.out; ((with_reducible repeat' first | exact Upd.refl _ _ | apply Upd.drew | apply Upd.drewN | apply Upd.alloc | refine Upd.setCell ?_ ?_ | refine Upd.call h ?_ ?_) <;> first | (intro _ _ h; exact h) | (intro _ _ h; exact h.elim) | (intro i h1 h2; exfalso; (try simp only at h2); omega) | (left; rfl) | (right; dsimp only; omega) | (right; omega)) : Upd Non wr (w3.alloc (.cells x.enc.toArray 45)))).grown hO3 h2
            · have e : y = x := by simpa using hy
              rw [e]
              exact (HX.out.non (by ((with_reducible repeat' first | exact Upd.refl _ _ | apply Upd.drew | apply Upd.drewN | apply Upd.alloc | refine Upd.setCell ?_ ?_) <;> first | (intro _ _ h; exact h) | (intro _ _ h; exact h.elim) | (intro i h1 h2; exfalso; (try simp only at h2); omega) | (left; rfl) | (right; dsimp only; omega) | (right; omega)) : Upd Non w3 (w3.alloc (.cells x.enc.toArray 45)))).grown hO3 h2)
          have HO4 := Lib.hid (show w4.ownsRow w1.heap.size 45 4 v' (q + 1) (dencL (l ++ [x])) by rw [dencL_append]; simpa [dencL] using h1)
          clear h1 h2 h3 hO3 hU3' c0 c1 c2 c3 HU3 HX HL3 HB3 HO HL HU
          have m1 : IntKind.i64.wrap ((M : Int).tdiv 6) = ((M / 6 : Nat) : Int) := by rw [Int.tdiv_eq_ediv_of_nonneg (by omega), IntWalk.i64_in _ (by omega)]; omega
          go_wp2_with fail
          go_roundw
          case rel => exact ⟨q + 1, M / 6, l ++ [x], by omega, by omega, by simp [hl], by go_num, by go_num, HO4.out, HL4.out, HU4.out⟩
          case measure => simp [intOf]; omega
        case neg =>
          have k2 : ¬ (q : Int) < 5 := by omega
          obtain ⟨A5, c5, rfl, hA5⟩ := own_cells HO.out
          obtain ⟨g9, rfl, _, _, _, h9⟩ := hA5 (by omega)
          have H9 := Lib.hid h9
          clear hA5 h9
          have hU3 : Upd Non wr (wr.alloc (.cells (DD.enc ⟨4, 32, 2, none, 0, 0⟩).toArray 45)) := by ((with_reducible repeat' first | exact Upd.refl _ _ | apply Upd.drew | apply Upd.drewN | apply Upd.alloc | refine Upd.setCell ?_ ?_) <;> first | (intro _ _ h; exact h) | (intro _ _ h; exact h.elim) | (intro i h1 h2; exfalso; (try simp only at h2); omega) | (left; rfl) | (right; dsimp only; omega) | (right; omega))
          obtain ⟨g', cap', w4, hrun, h1, h2⟩ := app_row 42 45 4 48 _ Try.underlying42 Try.info45 rfl (by decide) (own_one (x := ⟨4, 32, 2, none, 0, 0⟩) (base := wr.heap.size) (Blk.new wr _ 45) (Nat.le_refl _)) (some ⟨g9, 0, none⟩) q c5 (dencL l) (by rw [dencL_length, hl]) (dencL_one l)
            (fun _ => ⟨g9, 0, rfl, fun j u hj => by rw [Nat.zero_add]; exact hU3.cell_eq id (H9.out j u hj)⟩) (by omega) (by omega) hU3.size
          have HRUN := Lib.hid hrun
          have HL4 := Lib.hid (show ∀ y ∈ (⟨4, 32, 2, none, 0, 0⟩ : DD) :: l, LvB w4 y by
            intro y hy
            rcases List.mem_cons.1 hy with rfl | hy
            · exact LvB.zero rfl
            · exact ((HL.out y hy).non hU3).grown (own_one (x := ⟨4, 32, 2, none, 0, 0⟩) (base := wr.heap.size) (Blk.new wr _ 45) (Nat.le_refl _)) h2)
          have HU4 := Lib.hid (show Upd Non w1 w4 from Upd.grown h2 (Upd.call hU3 HU.out fun _ _ h => h) (fun r hr => .inr (by cases hr; exact hzz)))
          have HO4 := Lib.hid (show w4.ownsRow wr.heap.size 45 4 (.slice (some ⟨g', 0, none⟩) (1 + q) cap') (1 + q) (dencL (⟨4, 32, 2, none, 0, 0⟩ :: l)) from h1)
          clear hU3 hrun h1 h2 H9 HO HL HU
          go_wp2_with (at_builtin; refine wpList_appendK rfl _ _ 42 rfl rfl rfl HRUN.out ?_)
          have HU1' := Lib.hid (Upd.call HU4.out HU1.out fun _ _ h => h)
          refine (does_own (by decide) (devs_blk (l := [⟨0, 0, 0, 2, 5⟩]) rfl (Blk.upd HU4.out HD.out id)) (by simp [hl]; omega) (by simp [hl]; omega) HO4.out (fun x hx => (HL4.out x hx).at)).mono ?_
          rintro e w5 ⟨rfl, U5⟩
          have HU5 := Lib.hid (Upd.call U5 HU4.out fun _ _ h => h)
          clear U5 HU4 HO4 HL4 HRUN HU1'
          go_wp2_with fail
          go_roundw
          case rel => exact ⟨t + 1, by omega, by go_num, HU5.out⟩
          case measure => simp [intOf]; omega
    have k1 : ¬ (t : Int) < 7776 := by omega
    go_wp2_with fail
    go_loopw [7] (fun i wr => ∃ t : Nat, t ≤ 8 ∧ i = .int .i64 t ∧ Upd Non w1 wr) (fun i _ => 8 - (intOf i).toNat)
    case atStart => exact ⟨0, by omega, rfl, HU.out⟩
    case round =>
      clear HU ht hlt k1
      obtain ⟨s, hs, rfl, hU⟩ := hrel
      have HU := Lib.hid hU
      clear hU
      by_cases hlt : s < 8
      case pos =>
        have k1 : (s : Int) < 8 := by omega
        go_wp2_with fail
        go_loopw [8, 9] (fun k z wx => ∃ q : Nat, q ≤ 9 ∧ k = .int .i64 q ∧ Upd Non w1 wx) (fun k _ _ => 9 - (intOf k).toNat)
        case atStart => exact ⟨0, by omega, rfl, HU.out⟩
        case round =>
          clear HU
          obtain ⟨q, hq, rfl, hU⟩ := hrel
          have HU := Lib.hid hU
          clear hU
          by_cases hlt2 : q < 9
          case neg =>
            have k2 : ¬ (q : Int) < 9 := by omega
            go_wp2_with fail
            go_roundw
            case rel => exact ⟨s + 1, by omega, by go_num, HU.out⟩
            case measure => simp [intOf]; omega
          have k2 : (q : Int) < 9 := by omega
          go_wp2_with fail
          refine (one_is _ _ _).mono ?_
          rintro e w2 ⟨rfl, U2⟩
          have HU2 := Lib.hid (Upd.call U2 HU.out fun _ _ h => h)
          clear U2 HU
          go_wp2_with fail
          refine (one_is _ _ _).mono ?_
          rintro e w3 ⟨rfl, U3⟩
          have HU3 := Lib.hid (Upd.call U3 HU2.out fun _ _ h => h)
          clear U3 HU2
          go_wp2_with fail
          refine (one_is _ _ _).mono ?_
          rintro e w4 ⟨rfl, U4⟩
          have HU4 := Lib.hid (Upd.call U4 HU3.out fun _ _ h => h)
          clear U4 HU3
          go_upto_region 22 with fail
          go_wp2_with fail
          refine (does_ten _ _ _ _ _ _ _ _ _ _ _ _ _ w4).mono ?_
          rintro e w5 ⟨rfl, U5⟩
          have HU5 := Lib.hid (Upd.call U5 HU4.out fun _ _ h => h)
          clear U5 HU4
          go_wp2_with fail
          go_roundw
          case rel => exact ⟨q + 1, by omega, by go_num, HU5.out⟩
          case measure => simp [intOf]; omega
      have k1 : ¬ (s : Int) < 8 := by omega
      go_wp2_with fail
      obtain ⟨ge, hge⟩ : ∃ x, x = wr.heap.size := ⟨_, rfl⟩
      have HE0 := Lib.hid (show Blk (wr.alloc (.cells #[.int .i64 (-9223372036854775808), .int .i64 (-2), .int .i64 (-1), .int .i64 0, .int .i64 1, .int .i64 7, .int .i64 8, .int .i64 9223372036854775807] 3)) ge eight 3 from Blk.newAt hge)
      have HU0 := Lib.hid (show Upd Non w1 (wr.alloc (.cells #[.int .i64 (-9223372036854775808), .int .i64 (-2), .int .i64 (-1), .int .i64 0, .int .i64 1, .int .i64 7, .int .i64 8, .int .i64 9223372036854775807] 3)) from HU.out.alloc)
      rw [← hge]
      clear hge HU hs hlt k1
      generalize wr.alloc (.cells #[.int .i64 (-9223372036854775808), .int .i64 (-2), .int .i64 (-1), .int .i64 0, .int .i64 1, .int .i64 7, .int .i64 8, .int .i64 9223372036854775807] 3) = w2 at *
      go_loopw [11] (fun i wx => ∃ s : Nat, s ≤ 8 ∧ i = .int .i64 s ∧ Upd Non w2 wx) (fun i _ => 8 - (intOf i).toNat)
      case atStart => exact ⟨0, by omega, rfl, Upd.refl _ _⟩
      case round =>
        obtain ⟨i, hi, rfl, hU⟩ := hrel
        have HU := Lib.hid hU
        clear hU
        by_cases hlt : i < 8
        case pos =>
          have k1 : (i : Int) < 8 := by omega
          go_wp2_with fail
          go_loopw [12] (fun k wx => ∃ j : Nat, j ≤ 8 ∧ k = .int .i64 j ∧ Upd Non w2 wx) (fun k _ => 8 - (intOf k).toNat)
          case atStart => exact ⟨0, by omega, rfl, HU.out⟩
          case round =>
            clear HU
            obtain ⟨j, hj, rfl, hU⟩ := hrel
            have HU := Lib.hid hU
            clear hU
            by_cases hlt2 : j < 8
            case neg =>
              have k2 : ¬ (j : Int) < 8 := by omega
              go_wp2_with fail
              go_roundw
              case rel => exact ⟨i + 1, by omega, by go_num, HU.out⟩
              case measure => simp [intOf]; omega
            have k2 : (j : Int) < 8 := by omega
            obtain ⟨x, hx⟩ := eight_at i hlt
            obtain ⟨y, hy⟩ := eight_at j hlt2
            obtain ⟨Z, hZ⟩ : ∃ Z, Z = (List.replicate j (Value.bool false)).toArray := ⟨_, rfl⟩
            have HZ := Lib.hid hZ
            have hmk : ∀ w, (Instr.makeSlice 22 (.int .i64 j) (.int .i64 j)).run Try.prog w = .ok (.slice (some ⟨w.heap.size, 0, none⟩) j j) (w.alloc (.cells Z 4)) := by rw [hZ]; exact make_bools j (by omega)
            have hs0 := ES_non HU.out (show w2.cell? ⟨ge, i, none⟩ = some (.int .i64 x) ∧ w2.cell? ⟨ge, j, none⟩ = some (.int .i64 y) from ⟨HE0.out.cell i hx, HE0.out.cell j hy⟩)
            have HD2 := Lib.hid (show Blk wr gd (dvL [⟨0, 0, 0, 2, 5⟩]).toArray 31 from Blk.upd HU.out (Blk.upd HU0.out HD.out id) id)
            clear hZ hx hy
            go_wp2_with fail
            go_region_held3 (fun w' => w'.cell? ⟨ge, i, none⟩ = some (.int .i64 x) ∧ w'.cell? ⟨ge, j, none⟩ = some (.int .i64 y)) (first | exact hs0 | exact ES_non (Upd.alloc (Upd.refl Non _)) (by assumption) | exact ES_non (by assumption) (by assumption)) (first
              | (go_at_call 10; refine (one_is _ _ _).mono ?_; rintro e w4 ⟨rfl, U4⟩)
              | (go_at_call_of 6 (Value.slice (some ⟨gd, 0, none⟩) 1 1); refine (does_ends x y j gd Z HZ.out (by omega) _ (Blk.upd U5 (Blk.alloc (Blk.upd U4 HD2.out id)) id)).mono ?_; rintro e w6 ⟨rfl, U6⟩)
              | (go_at_call 6; refine (does_dev _ _ _).mono ?_; rintro e w5 ⟨rfl, U5⟩))
            have HU6 := Lib.hid (show Upd Non w2 w6 from Upd.call U6 (Upd.alloc (Upd.alloc (Upd.call U5 (Upd.alloc (Upd.call U4 (Upd.drew HU.out) fun _ _ h => h)) fun _ _ h => h))) fun _ _ h => h)
            clear U4 U5 U6 hs0 hmk
            go_wp2_with fail
            go_roundw
            case rel => exact ⟨j + 1, by omega, by go_num, HU6.out⟩
            case measure => simp [intOf]; omega
        have k1 : ¬ (i : Int) < 8 := by omega
        obtain ⟨Z, hZ⟩ : ∃ Z, Z = (dvL (List.replicate 16 ⟨0, 0, 0, 0, 0⟩)).toArray := ⟨_, rfl⟩
        obtain ⟨Y, hY⟩ : ∃ Z, Z = (dvL (List.replicate 17 ⟨0, 0, 0, 0, 0⟩)).toArray := ⟨_, rfl⟩
        obtain ⟨B, hB⟩ : ∃ Z, Z = (List.replicate 16 (Value.bool false)).toArray := ⟨_, rfl⟩
        have m1 : ∀ w, (Instr.makeSlice 33 (.int .i64 16) (.int .i64 16)).run Try.prog w = .ok (.slice (some ⟨w.heap.size, 0, none⟩) 16 16) (w.alloc (.cells Z 31)) := by rw [hZ]; exact make_devs16
        have m2 : ∀ w, (Instr.makeSlice 33 (.int .i64 17) (.int .i64 17)).run Try.prog w = .ok (.slice (some ⟨w.heap.size, 0, none⟩) 17 17) (w.alloc (.cells Y 31)) := by rw [hY]; exact make_devs17
        have m3 : ∀ w, (Instr.makeSlice 22 (.int .i64 16) (.int .i64 16)).run Try.prog w = .ok (.slice (some ⟨w.heap.size, 0, none⟩) 16 16) (w.alloc (.cells B 4)) := by rw [hB]; exact make_bools 16 (by decide)
        have HZ := Lib.hid hZ
        have HY := Lib.hid hY
        have HB := Lib.hid hB
        have HW := Lib.hid (Upd.call HU.out (Upd.call HU0.out HU1.out fun _ _ h => h) fun _ _ h => h)
        clear hZ hY hB HU HE0 HU0 HU1 HD
        go_wp2_with fail
        go_region_held3 (fun w' => True) (trivial) (first
          | ((with_reducible change Calls _ 6 #[.slice _ 17 17, _] _ _); refine (does_17 Y HY.out _).mono ?_; rintro e w6 ⟨rfl, U6⟩)
          | ((with_reducible change Calls _ 6 #[.slice none 0 0, _] _ _); refine (does_01 _).mono ?_; rintro e w7 ⟨rfl, U7⟩)
          | ((with_reducible change Calls _ 6 _ _ _); with_reducible refine (does_16a Z B HZ.out HB.out _).mono ?_; rintro e w5 ⟨rfl, U5⟩)
          | ((with_reducible change Calls _ 6 _ _ _); with_reducible refine (does_16b Z B HZ.out HB.out _).mono ?_; rintro e w5 ⟨rfl, U5⟩)
          | ((with_reducible change Calls _ 6 _ _ _); with_reducible refine (does_16c Z B HZ.out HB.out _).mono ?_; rintro e w5 ⟨rfl, U5⟩)
          | (go_at_call 28; refine (none_spec _).mono ?_; rintro e w8 ⟨rfl, U8⟩)
          | (go_at_call 8; refine (awake_ok _).mono ?_; rintro e w9 ⟨rfl, U9⟩))
        all_goals
          have HU9 := Lib.hid (Upd.call U9 (Upd.call U8 (Upd.call U7 (Upd.call U6 (Upd.call U5 HW.out fun _ _ h => h) fun _ _ h => h) fun _ _ h => h) fun _ _ h => h) fun _ _ h => h)
          go_wp2_with fail
          go_ret
          exact ⟨rfl, HU9.out⟩
end Go.Proofs.Ytkhhmkcpbefadaa
