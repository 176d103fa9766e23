/- PortSmall: the law's walk. No condition. -/
import Derived.Test.YtmblplhehbdocaaPortDoesLaw
import Derived.Test.YtmblplhehbdocaaPortNone2
import Derived.Test.YtmblplhehbdocaaPRow
namespace Go.Proofs.Ytmblplhehbdocaa
open Go.RowKit Go.Shelf
attribute [local go_sem] Oper.semAt_some

theorem Try.info44 : (Try.prog.info? 44).map (fun i => (i.zero, i.size, i.bytes)) = some (some (.agg #[.int .i64 0, .int .i64 0]), 2, 16) := by kernel_rfl
theorem doesP_row {W : World} {base n c : Nat} {A : Option Addr} (h : PRow W base 44 (.slice A n c) n) : Calls Try.prog 13 #[.slice A n c] W fun e w' => e = .returned (.bool true) ∧ Upd Non W w' := by
  obtain ⟨H, K, hd⟩ := h.cells
  exact doesP_law A n c H K W hd
/-- The law's ten deeds at one world. -/
def ten (z : Int) : Array Value := #[.int .i64 0, .int .i64 z, .int .i64 2, .int .i64 z, .int .i64 0, .int .i64 z, .int .i64 1, .int .i64 z, .int .i64 1, .int .i64 z, .int .i64 0, .int .i64 z, .int .i64 3, .int .i64 z, .int .i64 2, .int .i64 z, .int .i64 2, .int .i64 z, .int .i64 1, .int .i64 z]
theorem doesP_ten (z : Int) (g : Nat) (W : World) (h : Blk W g (ten z) 44) : Calls Try.prog 13 #[.slice (some ⟨g, 0, none⟩) 10 10] W fun e w' => e = .returned (.bool true) ∧ Upd Non W w' := by
  refine doesP_law _ 10 10 (fun j => [0, 2, 0, 1, 1, 0, 3, 2, 2, 1].getD j 0) (fun _ => z) W fun _ => ⟨g, 0, rfl, fun j hj => ?_⟩
  rw [Nat.zero_add]
  rcases (show j = 0 ∨ j = 1 ∨ j = 2 ∨ j = 3 ∨ j = 4 ∨ j = 5 ∨ j = 6 ∨ j = 7 ∨ j = 8 ∨ j = 9 by omega) with rfl | rfl | rfl | rfl | rfl | rfl | rfl | rfl | rfl | rfl
  all_goals exact ⟨h.cell _ rfl, h.cell _ rfl⟩
theorem put_4 (s : QS) (b : Nat) (w : World) (hb : QBlk w b s) :
    Calls Try.prog 31 #[.pointer (some ⟨b, 0, none⟩), .int .i64 4, .agg #[.bool false, .int .i64 0, .bool false, .int .u32 0, .int .i64 0, .int .u32 0, .bool false, .int .i64 0, .int .i64 0, .int .i64 0, .int .i64 0, .bool false, .int .i64 0, .int .u32 0, .int .u32 0, .bool false, .bool false, .int .i64 0, .bool false]] w fun e w' => e = .returned (.int .i64 (s.putE 4)) ∧ QBlk w' b (s.putS 4 AK.no) ∧ Upd (fun i => i = b) w w' := put_any s b 4 AK.no w hb
theorem put_6 (s : QS) (b : Nat) (a : AK) (w : World) (hb : QBlk w b s) :
    Calls Try.prog 31 #[.pointer (some ⟨b, 0, none⟩), .int .i64 6, .agg a.enc] w fun e w' => e = .returned (.int .i64 (s.putE 6)) ∧ QBlk w' b (s.putS 6 a) ∧ Upd (fun i => i = b) w w' := put_any s b 6 a w hb
theorem take_4 (s : QS) (b : Nat) (w : World) (hb : QBlk w b s) (A : AK) (O : Bool) (hA : s.takeA 4 = A) (hO : s.takeO 4 = O) :
    Calls Try.prog 30 #[.pointer (some ⟨b, 0, none⟩), .int .i64 4] w fun e w' => e = .returned (.tuple #[.agg A.enc, .bool O]) ∧ Upd (fun i => i = b) w w' := by
  subst hA hO
  exact (take_any s b 4 w hb).mono fun e w' h => ⟨h.1, h.2.2⟩
/-- What the law has put. -/
def q46 : QS := (QS.fresh.putS 4 AK.no).putS 6 (AK.of 1)
theorem q46_st (t : Nat) (ht : t ≤ 4) : (q46.st t = 1) ↔ t = 4 := by
  rcases (show t = 0 ∨ t = 1 ∨ t = 2 ∨ t = 3 ∨ t = 4 by omega) with rfl | rfl | rfl | rfl | rfl
  all_goals decide
theorem q46_take : q46.takeA 4 = AK.no ∧ q46.takeO 4 = true := ⟨rfl, rfl⟩
def six : Array Value := #[.int .i64 (-9223372036854775808), .int .i64 (-1), .int .i64 0, .int .i64 7, .int .i64 8, .int .i64 9223372036854775807]

set_option maxRecDepth 100000 in
set_option maxHeartbeats 16000000 in
theorem smallP (w : World) : Calls Try.prog 14 #[] w fun e w' => e = .returned (.bool true) ∧ Upd Non w w' := by
  refine calls_of_wp_range Try.func14 rfl ?_
  simp only [Try.ntmps14, List.size_toArray, List.length_nil, Nat.reduceSub, Array.replicate_succ, Array.replicate_zero, List.push_toArray, List.append_toArray, List.nil_append, List.cons_append]
  go_wp2_with fail
  go_loopw [1] (fun i wr => ∃ t : Nat, t ≤ 7776 ∧ i = .int .i64 t ∧ Upd Non w wr) (fun i _ => 7776 - (intOf i).toNat)
  case atStart => exact ⟨0, by omega, rfl, Upd.refl _ _⟩
  case round =>
    obtain ⟨t, ht, rfl, hu⟩ := hrel
    have HU := Lib.hid hu
    clear hu
    by_cases hlt : t < 7776
    case pos =>
      have k1 : (t : Int) < 7776 := by omega
      go_wp2_with fail
      go_loopw [2, 3, 4] (fun v m k wr => ∃ (q : Nat) (M : Int), q ≤ 5 ∧ k = .int .i64 q ∧ m = .int .i64 M ∧ PRow wr w.heap.size 44 v q ∧ Upd Non w wr) (fun _ _ k _ => 5 - (intOf k).toNat)
      case atStart => exact ⟨0, t, by omega, rfl, rfl, PRow.nil _ _ _, HU.out⟩
      case round =>
        clear HU k1
        obtain ⟨q, M, hq, rfl, rfl, hp, hu⟩ := hrel
        obtain ⟨A, c, rfl⟩ := hp.slice
        have HU := Lib.hid hu
        have HP := Lib.hid hp
        have hzz := hu.size
        clear hu hp
        by_cases hlt2 : q < 5
        case neg =>
          have k2 : ¬ (q : Int) < 5 := by omega
          go_wp2_with fail
          refine (doesP_row HP.out).mono ?_
          rintro e w2 ⟨rfl, U2⟩
          have HU2 := Lib.hid (by have h := HU.out; ((with_reducible repeat' first | exact Upd.refl _ _ | apply Upd.drew | apply Upd.drewN | apply Upd.alloc | refine Upd.setCell ?_ ?_ | refine Upd.call U2 ?_ ?_ | refine Upd.call h ?_ ?_) <;> first | (intro _ _ h; exact h) | (intro _ _ h; exact h.elim) | (intro i h1 h2; exfalso; (try simp only at h2); omega) | (left; rfl) | (right; dsimp only; omega) | (right; omega)) : Upd Non w w2)
          clear U2
          go_wp2_with fail
          go_roundw
          case rel => exact ⟨t + 1, by omega, by go_num, HU2.out⟩
          case measure => simp [intOf]; omega
        have k2 : (q : Int) < 5 := by omega
        go_wp2_with (at_builtin; refine wpList_pappend rfl _ _ 39 44 rfl Try.underlying39 Try.info44 rfl (PRow.non (by ((with_reducible repeat' first | exact Upd.refl _ _ | apply Upd.drew | apply Upd.drewN | apply Upd.alloc | refine Upd.setCell ?_ ?_) <;> first | (intro _ _ h; exact h) | (intro _ _ h; exact h.elim) | (intro i h1 h2; exfalso; (try simp only at h2); omega) | (left; rfl) | (right; dsimp only; omega) | (right; omega))) HP.out) wr.heap.size _ _ rfl (Blk.new _ _ _) (by omega) (by rw [World.size_alloc]; omega) ?_; intro v' w' hp' U')
        have HP' := Lib.hid hp'
        have HU' := Lib.hid (show Upd Non w w' from Upd.call U' (by have h := HU.out; ((with_reducible repeat' first | exact Upd.refl _ _ | apply Upd.drew | apply Upd.drewN | apply Upd.alloc | refine Upd.setCell ?_ ?_ | refine Upd.call h ?_ ?_) <;> first | (intro _ _ h; exact h) | (intro _ _ h; exact h.elim) | (intro i h1 h2; exfalso; (try simp only at h2); omega) | (left; rfl) | (right; dsimp only; omega) | (right; omega)) : Upd Non w _) (fun i hi h => by omega))
        clear hp' U'
        go_wp2_with fail
        go_roundw
        case rel => exact ⟨q + 1, _, by omega, by go_num, rfl, HP'.out, HU'.out⟩
        case measure => simp [intOf]; omega
    have k1 : ¬ (t : Int) < 7776 := by omega
    go_wp2_with fail
    obtain ⟨be, hbe⟩ : ∃ x, x = wr.heap.size := ⟨_, rfl⟩
    have hE : Blk (wr.alloc (.cells six 3)) be six 3 := Blk.newAt hbe
    have hU0 := Lib.hid (by have h := HU.out; ((with_reducible repeat' first | exact Upd.refl _ _ | apply Upd.drew | apply Upd.drewN | apply Upd.alloc | refine Upd.setCell ?_ ?_ | refine Upd.call h ?_ ?_) <;> first | (intro _ _ h; exact h) | (intro _ _ h; exact h.elim) | (intro i h1 h2; exfalso; (try simp only at h2); omega) | (left; rfl) | (right; dsimp only; omega) | (right; omega)) : Upd Non w (wr.alloc (.cells six 3)))
    rw [← hbe]
    have hE0 := Lib.hid hE
    clear hbe hE HU
    go_loopw [6] (fun i wr => ∃ j : Nat, j ≤ 6 ∧ i = .int .i64 j ∧ Blk wr be six 3 ∧ Upd Non w wr) (fun i _ => 6 - (intOf i).toNat)
    case atStart => exact ⟨0, by omega, rfl, hE0.out, hU0.out⟩
    case round =>
      clear hE0 hU0 ht hlt k1
      obtain ⟨j, hj, rfl, he, hu⟩ := hrel
      have HE := Lib.hid he
      have HU := Lib.hid hu
      clear he hu
      by_cases hlt : j < 6
      case pos =>
        have k1 : (j : Int) < 6 := by omega
        obtain ⟨z, hz⟩ : ∃ z : Int, six[j]? = some (.int .i64 z) := by
          rcases (show j = 0 ∨ j = 1 ∨ j = 2 ∨ j = 3 ∨ j = 4 ∨ j = 5 by omega) with rfl | rfl | rfl | rfl | rfl | rfl
          all_goals exact ⟨_, rfl⟩
        have c1 := HE.out.cell _ hz
        clear hz
        go_wp2_with fail
        have hT : Blk (wr.alloc (.cells (ten z) 44)) wr.heap.size (ten z) 44 := Blk.new _ _ _
        refine (doesP_ten z _ _ hT).mono ?_
        rintro e w2 ⟨rfl, U2⟩
        have HE2 := Lib.hid (Blk.upd U2 (Blk.alloc HE.out) id)
        have HU2 := Lib.hid (by have h := HU.out; ((with_reducible repeat' first | exact Upd.refl _ _ | apply Upd.drew | apply Upd.drewN | apply Upd.alloc | refine Upd.setCell ?_ ?_ | refine Upd.call U2 ?_ ?_ | refine Upd.call h ?_ ?_) <;> first | (intro _ _ h; exact h) | (intro _ _ h; exact h.elim) | (intro i h1 h2; exfalso; (try simp only at h2); omega) | (left; rfl) | (right; dsimp only; omega) | (right; omega)) : Upd Non w w2)
        clear U2 hT c1
        go_wp2_with fail
        go_roundw
        case rel => exact ⟨j + 1, by omega, by go_num, HE2.out, HU2.out⟩
        case measure => simp [intOf]; omega
      have k1 : ¬ (j : Int) < 6 := by omega
      clear HE
      go_wp2_with fail
      refine (new_spec _).mono ?_
      rintro e w2 ⟨rfl, hw2⟩
      obtain ⟨b, hbb⟩ : ∃ b, b = wr.heap.size := ⟨_, rfl⟩
      rw [← hbb]
      have HB2 := Lib.hid (show QBlk w2 b QS.fresh by rw [hw2]; exact Blk.newAt hbb)
      have HU2 := Lib.hid (show Upd Non w w2 by rw [hw2]; exact HU.out.alloc)
      have hbw : w.heap.size ≤ b := by have := HU.out.size; omega
      clear hw2 hbb HU hlt k1 hj
      go_wp2_with fail
      refine (put_4 _ b _ HB2.out).mono ?_
      rintro e w3 ⟨rfl, hq, U⟩
      have HB3 := Lib.hid hq
      have HU3 := Lib.hid (by have h := HU2.out; ((with_reducible repeat' first | exact Upd.refl _ _ | apply Upd.drew | apply Upd.drewN | apply Upd.alloc | refine Upd.setCell ?_ ?_ | refine Upd.call U ?_ ?_ | refine Upd.call h ?_ ?_) <;> first | (intro _ _ h; exact h) | (intro _ _ h; exact h.elim) | (intro i h1 h2; exfalso; (try simp only at h2); omega) | (left; rfl) | (right; dsimp only; omega) | (right; omega)) : Upd Non w w3)
      clear U hq HB2 HU2
      go_wp2_with fail
      refine (ask_1 _).mono ?_
      rintro e w4 ⟨rfl, U⟩
      have HB4 := Lib.hid (QBlk.upd U HB3.out id)
      have HU4 := Lib.hid (by have h := HU3.out; ((with_reducible repeat' first | exact Upd.refl _ _ | apply Upd.drew | apply Upd.drewN | apply Upd.alloc | refine Upd.setCell ?_ ?_ | refine Upd.call U ?_ ?_ | refine Upd.call h ?_ ?_) <;> first | (intro _ _ h; exact h) | (intro _ _ h; exact h.elim) | (intro i h1 h2; exfalso; (try simp only at h2); omega) | (left; rfl) | (right; dsimp only; omega) | (right; omega)) : Upd Non w w4)
      clear U HB3 HU3
      go_wp2_with fail
      refine (put_6 _ b _ _ HB4.out).mono ?_
      rintro e w5 ⟨rfl, hq, U⟩
      have HB5 := Lib.hid (show QBlk w5 b q46 from hq)
      have HU5 := Lib.hid (by have h := HU4.out; ((with_reducible repeat' first | exact Upd.refl _ _ | apply Upd.drew | apply Upd.drewN | apply Upd.alloc | refine Upd.setCell ?_ ?_ | refine Upd.call U ?_ ?_ | refine Upd.call h ?_ ?_) <;> first | (intro _ _ h; exact h) | (intro _ _ h; exact h.elim) | (intro i h1 h2; exfalso; (try simp only at h2); omega) | (left; rfl) | (right; dsimp only; omega) | (right; omega)) : Upd Non w w5)
      clear U hq HB4 HU4
      go_wp2_with fail
      refine (allp_spec b _).mono ?_
      rintro e w6 ⟨rfl, hw6⟩
      obtain ⟨b9, hb9⟩ : ∃ x, x = w5.heap.size := ⟨_, rfl⟩
      obtain ⟨bx, hbx⟩ : ∃ x, x = w5.heap.size + 1 := ⟨_, rfl⟩
      have hX9 : Blk w6 b9 #[.int .i64 (-1)] 3 := by rw [hw6]; exact Blk.alloc (Blk.newAt hb9)
      have hXX : w6.cell? ⟨bx, 0, none⟩ = some (.pointer (some ⟨b, 0, none⟩)) := by
        have : Blk w6 bx #[.pointer (some ⟨b, 0, none⟩)] 40 := by rw [hw6]; exact Blk.newAt (by rw [World.size_alloc]; exact hbx)
        exact this.cell 0 rfl
      have hU6 : Upd Non w5 w6 := by rw [hw6]; ((with_reducible repeat' first | exact Upd.refl _ _ | apply Upd.drew | apply Upd.drewN | apply Upd.alloc | refine Upd.setCell ?_ ?_) <;> first | (intro _ _ h; exact h) | (intro _ _ h; exact h.elim) | (intro i h1 h2; exfalso; (try simp only at h2); omega) | (left; rfl) | (right; dsimp only; omega) | (right; omega))
      have hbe : ({ block := (w5.alloc (.cells #[.int .i64 (-1)] 3)).heap.size, off := 0, spot := none } : Addr) = ⟨bx, 0, none⟩ := by rw [World.size_alloc, hbx]
      have hsz : b9 < w6.heap.size ∧ bx < w6.heap.size ∧ b < w6.heap.size ∧ b9 ≠ b ∧ bx ≠ b9 ∧ bx ≠ b ∧ w.heap.size ≤ b9 ∧ w.heap.size ≤ w6.heap.size := by
        have h1 := hX9.lt
        have h2 := World.block_lt_of_cell? _ _ hXX
        have h3 := HB5.out.blk.lt
        have h4 := HU5.out.size
        have h5 := hU6.size
        dsimp only at h2
        omega
      have HB6 := Lib.hid (QBlk.upd hU6 HB5.out id)
      have HU6 := Lib.hid (Upd.call hU6 HU5.out fun _ _ h => h)
      have HX9 := Lib.hid hX9
      have HXX := Lib.hid hXX
      rw [← hb9, hbe]
      clear hw6 hX9 hXX hb9 hbx hbe hU6 HB5 HU5
      go_wp2_with fail
      refine wp_range (gf := 91) (lb := #[.pointer (some ⟨bx, 0, none⟩)]) rfl (enters_of Try.func91 (by kernel_rfl) rfl) ?_
      intro fn rec hrec W1 hL hU1 hz
      obtain ⟨D1, hD1⟩ : ∃ D, D = w6.heap.size := ⟨_, rfl⟩
      rw [← hD1] at hrec hL hz hsz ⊢
      have HREC := Lib.hid hrec
      have HB7 := Lib.hid (QBlk.upd hU1 HB6.out id)
      have HU7 := Lib.hid (Upd.call hU1 HU6.out fun _ _ h => h)
      have HX97 := Lib.hid (Blk.upd hU1 HX9.out id)
      have HXX7 := Lib.hid (hU1.cell_eq id HXX.out)
      clear hD1 hrec HB6 HU6 HX9 HXX hU1
      refine Calls.mono (R := fun e W' => e = .returned (.tuple #[]) ∧ LoopAt (rec .done (some (.exit 6))) D1 W' ∧ QBlk W' b q46 ∧ Blk W' b9 #[.int .i64 4] 3 ∧ Upd Non w W')
        (Calls.mono (allp_run (b := b) (l := D1 + 1) (bx := bx) (s := q46) W1
          (fun b2 D t W' => LoopAt (rec .ready none) D1 W' ∧ t ≤ 4 ∧ QBlk W' b q46 ∧ W'.cell? ⟨bx, 0, none⟩ = some (.pointer (some ⟨b, 0, none⟩)) ∧ W'.cell? ⟨b2, 0, none⟩ = some (.func (.yield (D1 + 1)) #[] #[]) ∧ Blk W' b9 #[.int .i64 (-1)] 3 ∧ Upd Non w W' ∧ D1 + 2 ≤ b2 ∧ b2 < D)
          (fun b2 D W' => (LoopAt (rec .done (some (.exit 6))) D1 W' ∧ QBlk W' b q46 ∧ Blk W' b9 #[.int .i64 4] 3 ∧ Upd Non w W') ∧ D1 + 2 ≤ D) ?h0 ?hbx ?hup ?hupx ?hskip ?hY) ?hmid) ?hend
      case h0 =>
        intro b2 D W' U k1 k2 k3 k4
        exact ⟨hL.upd U id id, Nat.zero_le _, QBlk.upd U HB7.out id, U.cell_eq id HXX7.out, k4, Blk.upd U HX97.out id, Upd.call U HU7.out fun _ _ h => h, by omega, k2⟩
      case hbx => exact fun _ _ _ _ h => ⟨h.2.2.2.1, h.2.2.2.2.1, h.2.2.1⟩
      case hup =>
        rintro b2 D t W' W'' ⟨h1, h2, h3, h4, h5, h6, h7, h8, h9⟩ U
        exact ⟨h1.upd U (by omega) (by omega), h2, QBlk.upd U h3 (by omega), U.cell_eq (by dsimp only; omega) h4, U.cell_eq (by dsimp only; omega) h5, Blk.upd U h6 (by omega), Upd.call U h7 (fun i hi h => by omega), h8, h9⟩
      case hupx =>
        rintro b2 D W' W'' ⟨⟨h1, h3, h6, h7⟩, h8⟩ U
        exact ⟨⟨h1.upd U (by omega) (by omega), QBlk.upd U h3 (by omega), Blk.upd U h6 (by omega), Upd.call U h7 (fun i hi h => by omega)⟩, h8⟩
      case hskip =>
        rintro b2 D t W' ht hs ⟨h1, h2, h3⟩
        refine ⟨h1, ?_, h3⟩
        have : t ≠ 4 := fun e => hs ((q46_st t h2).2 e)
        omega
      case hY =>
        rintro b2 D t W' ht hs ⟨h1, h2, h3, h4, h5, h6, h7, h8, h9⟩
        obtain rfl : t = 4 := (q46_st t h2).1 hs
        have HH := Lib.hid (And.intro h1 (And.intro h3 (And.intro h6 h7)))
        clear h1 h2 h3 h4 h5 h6 h7 hs ht hL
        refine yield_at HREC.out HH.out.1 rfl ?_
        gi_wp2
        refine ⟨rfl, fun W2 hU2 hL2 => ?_⟩
        have f9 := (Blk.upd hU2 HH.out.2.2.1 (by omega)).frozen 0
        have x9 := (Blk.upd hU2 HH.out.2.2.1 (by omega)).cell 0 rfl
        have HL2 := Lib.hid hL2
        have HU2 := Lib.hid hU2
        clear hL2 hU2
        gi_wp2
        have uu : Upd (fun i => i = b9) W2 (W2.setCell ⟨b9, 0, none⟩ (.int .i64 4)) := by ((with_reducible repeat' first | exact Upd.refl _ _ | apply Upd.drew | apply Upd.drewN | apply Upd.alloc | refine Upd.setCell ?_ ?_) <;> first | (intro _ _ h; exact h) | (intro _ _ h; exact h.elim) | (intro i h1 h2; exfalso; (try simp only at h2); omega) | (left; rfl) | (right; dsimp only; omega) | (right; omega))
        have ua : Upd (fun i => i = D1 + 1 ∨ i = b9) W' (W2.setCell ⟨b9, 0, none⟩ (.int .i64 4)) := Upd.trans HU2.out uu (fun _ h => .inl h) (fun _ _ h => .inr h)
        have hb9 : Blk (W2.setCell ⟨b9, 0, none⟩ (.int .i64 4)) b9 #[.int .i64 4] 3 := Blk.set (Blk.upd HU2.out HH.out.2.2.1 (by omega))
        refine ⟨HL2.out.upd uu (by omega) (by omega), fun W4 hU4 hL4 => ⟨Upd.trans ua hU4 (fun i h => by omega) (fun i hi h => by omega), rfl, ⟨hL4, QBlk.upd hU4 (QBlk.upd ua HH.out.2.1 (by omega)) (by omega), Blk.upd hU4 hb9 (by omega), Upd.call hU4 (Upd.call ua HH.out.2.2.2 (fun i hi h => by omega)) (fun i hi h => by omega)⟩, by omega⟩⟩
      case hmid => 
        rintro e W' ⟨rfl, ⟨b2, D, h⟩ | ⟨b2, D, h⟩⟩
        · exact absurd h.2.1 (by decide)
        · exact ⟨rfl, h.1⟩
      case hend =>
        rintro e W' ⟨rfl, hl, hq, h9, hu⟩
        refine ⟨⟨_, rfl⟩, .inr ⟨_, hl, fun W4 hU4 hd4 => ?_⟩⟩
        have HQ4 := Lib.hid (QBlk.upd hU4 hq (by omega))
        have HX4 := Lib.hid (Blk.upd hU4 h9 (by omega))
        have HU4 := Lib.hid (show Upd Non w W4 from Upd.call hU4 hu (fun i hi h => by omega))
        have HD4 := Lib.hid hd4
        have hd4l : D1 < W4.heap.size := (Array.getElem?_eq_some_iff.1 hd4).1
        clear hl hq h9 hu hU4 hd4 hL
        go_wp2_with fail
        refine (take_4 q46 b _ HQ4.out AK.no true q46_take.1 q46_take.2).mono ?_
        rintro e w8 ⟨rfl, U⟩
        have HX8 := Lib.hid (Blk.upd U HX4.out (by omega))
        have HU8 := Lib.hid (by have h := HU4.out; ((with_reducible repeat' first | exact Upd.refl _ _ | apply Upd.drew | apply Upd.drewN | apply Upd.alloc | refine Upd.setCell ?_ ?_ | refine Upd.call U ?_ ?_ | refine Upd.call h ?_ ?_) <;> first | (intro _ _ h; exact h) | (intro _ _ h; exact h.elim) | (intro i h1 h2; exfalso; (try simp only at h2); omega) | (left; rfl) | (right; dsimp only; omega) | (right; omega)) : Upd Non w w8)
        have HD8 := Lib.hid ((U.block D1 hd4l (by omega)).trans HD4.out)
        clear U HQ4 HX4 HU4 HD4
        go_upto_region 28 with (refine wpList_store_row rfl 55 _ _ rfl w8.heap.size AK.no.enc rfl rfl 55 AK.no.enc (heap_alloc_new w8 _) (by kernel_rfl) rfl (AK.enc_one _) ?_; rw [World.setRow_alloc_new])
        obtain ⟨w9, hw9⟩ : ∃ x, x = w8.alloc (.cells AK.no.enc 55) := ⟨_, rfl⟩
        obtain ⟨b11, hb11⟩ : ∃ x, x = w8.heap.size := ⟨_, rfl⟩
        have hA9 : Blk w9 b11 AK.no.enc 55 := by rw [hw9]; exact Blk.newAt hb11
        have hU9 : Upd Non w8 w9 := by rw [hw9]; ((with_reducible repeat' first | exact Upd.refl _ _ | apply Upd.drew | apply Upd.drewN | apply Upd.alloc | refine Upd.setCell ?_ ?_) <;> first | (intro _ _ h; exact h) | (intro _ _ h; exact h.elim) | (intro i h1 h2; exfalso; (try simp only at h2); omega) | (left; rfl) | (right; dsimp only; omega) | (right; omega))
        have HA9 := Lib.hid hA9
        have HX9 := Lib.hid (Blk.upd hU9 HX8.out id)
        have HU9 := Lib.hid (by have h := HU8.out; ((with_reducible repeat' first | exact Upd.refl _ _ | apply Upd.drew | apply Upd.drewN | apply Upd.alloc | refine Upd.setCell ?_ ?_ | refine Upd.call hU9 ?_ ?_ | refine Upd.call h ?_ ?_) <;> first | (intro _ _ h; exact h) | (intro _ _ h; exact h.elim) | (intro i h1 h2; exfalso; (try simp only at h2); omega) | (left; rfl) | (right; dsimp only; omega) | (right; omega)) : Upd Non w w9)
        have HD9 := Lib.hid ((hU9.block D1 (Array.getElem?_eq_some_iff.1 HD8.out).1 id).trans HD8.out)
        rw [← hw9, ← hb11]
        clear hw9 hb11 hA9 hU9 HX8 HU8 HD8
        go_upto_region 29 with (refine wpList_store_row rfl 55 _ _ rfl w9.heap.size AK.no.enc rfl rfl 55 AK.no.enc (heap_alloc_new w9 _) (by kernel_rfl) rfl (AK.enc_one _) ?_; rw [World.setRow_alloc_new])
        obtain ⟨w10, hw10⟩ : ∃ x, x = w9.alloc (.cells AK.no.enc 55) := ⟨_, rfl⟩
        obtain ⟨b13, hb13⟩ : ∃ x, x = w9.heap.size := ⟨_, rfl⟩
        have hC10 : Blk w10 b13 AK.no.enc 55 := by rw [hw10]; exact Blk.newAt hb13
        have hU10 : Upd Non w9 w10 := by rw [hw10]; ((with_reducible repeat' first | exact Upd.refl _ _ | apply Upd.drew | apply Upd.drewN | apply Upd.alloc | refine Upd.setCell ?_ ?_) <;> first | (intro _ _ h; exact h) | (intro _ _ h; exact h.elim) | (intro i h1 h2; exfalso; (try simp only at h2); omega) | (left; rfl) | (right; dsimp only; omega) | (right; omega))
        have HC10 := Lib.hid hC10
        have HA10 := Lib.hid (Blk.upd hU10 HA9.out id)
        have x9 := (Blk.upd hU10 HX9.out id).cell 0 rfl
        have HU10 := Lib.hid (by have h := HU9.out; ((with_reducible repeat' first | exact Upd.refl _ _ | apply Upd.drew | apply Upd.drewN | apply Upd.alloc | refine Upd.setCell ?_ ?_ | refine Upd.call hU10 ?_ ?_ | refine Upd.call h ?_ ?_) <;> first | (intro _ _ h; exact h) | (intro _ _ h; exact h.elim) | (intro i h1 h2; exfalso; (try simp only at h2); omega) | (left; rfl) | (right; dsimp only; omega) | (right; omega)) : Upd Non w w10)
        have HD10 := Lib.hid ((hU10.block D1 (Array.getElem?_eq_some_iff.1 HD9.out).1 id).trans HD9.out)
        rw [← hw10, ← hb13]
        clear hw10 hb13 hC10 hU10 HX9 HU9 HD9 HA9
        go_wp2_with (first | (refine wpList_load_rowG (by rfl) 55 _ rfl b11 rfl 55 _ (0, 0) _ HA10.out Try.underlying55 rfl (by kernel_rfl) ?_) | (refine wpList_load_rowG (by rfl) 55 _ rfl b13 rfl 55 _ (0, 0) _ HC10.out Try.underlying55 rfl (by kernel_rfl) ?_) | (refine wpList_same (by rfl) .eql 55 55 _ _ rfl AK.no.enc AK.no.enc (.bool true) rfl rfl Try.eqGuardType55 (ask_eq AK.no _) ?_))
        refine (none_spec _).mono ?_
        rintro e w11 ⟨rfl, U⟩
        have HU11 := Lib.hid (by have h := HU10.out; ((with_reducible repeat' first | exact Upd.refl _ _ | apply Upd.drew | apply Upd.drewN | apply Upd.alloc | refine Upd.setCell ?_ ?_ | refine Upd.call U ?_ ?_ | refine Upd.call h ?_ ?_) <;> first | (intro _ _ h; exact h) | (intro _ _ h; exact h.elim) | (intro i h1 h2; exfalso; (try simp only at h2); omega) | (left; rfl) | (right; dsimp only; omega) | (right; omega)) : Upd Non w w11)
        have HD11 := Lib.hid ((U.block D1 (Array.getElem?_eq_some_iff.1 HD10.out).1 id).trans HD10.out)
        clear U HU10 HD10 HC10 HA10 x9
        go_wp2_with fail
        refine (awake_spec _).mono ?_
        rintro e w12 ⟨rfl, U⟩
        have HU12 := Lib.hid (by have h := HU11.out; ((with_reducible repeat' first | exact Upd.refl _ _ | apply Upd.drew | apply Upd.drewN | apply Upd.alloc | refine Upd.setCell ?_ ?_ | refine Upd.call U ?_ ?_ | refine Upd.call h ?_ ?_) <;> first | (intro _ _ h; exact h) | (intro _ _ h; exact h.elim) | (intro i h1 h2; exfalso; (try simp only at h2); omega) | (left; rfl) | (right; dsimp only; omega) | (right; omega)) : Upd Non w w12)
        have HD12 := Lib.hid ((U.block D1 (Array.getElem?_eq_some_iff.1 HD11.out).1 id).trans HD11.out)
        clear U HU11 HD11
        go_wp2_with fail
        refine postM_ret1 (v := .bool true) (D := D1) ?_ rfl HD12.out ?_
        · intro w' hU'
          exact results_tmp Try.results14 _ _ _
        · intro w' hU'
          have h := HU12.out
          exact ⟨rfl, by ((with_reducible repeat' first | exact Upd.refl _ _ | apply Upd.drew | apply Upd.drewN | apply Upd.alloc | refine Upd.setCell ?_ ?_ | refine Upd.call hU' ?_ ?_ | refine Upd.call h ?_ ?_) <;> first | (intro _ _ h; exact h) | (intro _ _ h; exact h.elim) | (intro i h1 h2; exfalso; (try simp only at h2); omega) | (left; rfl) | (right; dsimp only; omega) | (right; omega))⟩
end Go.Proofs.Ytmblplhehbdocaa
