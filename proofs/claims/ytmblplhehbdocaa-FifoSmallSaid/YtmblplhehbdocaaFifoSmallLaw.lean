/- FifoSmall: the law's walk. No condition. -/
import Derived.Test.YtmblplhehbdocaaFifoSAll
import Derived.Test.YtmblplhehbdocaaFifoNone2
import Derived.Test.YtmblplhehbdocaaFifoDoesLaw
import Derived.Test.YtmblplhehbdocaaPRow
import Derived.Deep.CutRange
import Derived.Laws.BytesArg
namespace Go.Proofs.Ytmblplhehbdocaa
open Go.RowKit Go.Shelf
attribute [local go_sem] Oper.semAt_some

theorem Try.info94 : (Try.prog.info? 94).map (fun i => (i.zero, i.size, i.bytes)) = some (some (.agg #[.int .i64 0, .int .i64 0]), 2, 16) := by kernel_rfl
theorem doesF_row {W : World} {base n c : Nat} {A : Option Addr} (v : Int) (hv : v ≤ 9223372036854775807) (h : PRow W base 94 (.slice A n c) n) : Calls Try.prog 11 #[.int .i64 v, .slice A n c] W fun e w' => e = .returned (.bool true) ∧ Upd Non W w' := by
  obtain ⟨H, K, hd⟩ := h.cells
  exact doesF_law v hv A n c H K W hd
theorem doesF_nil (v : Int) (hv : v ≤ 9223372036854775807) (W : World) : Calls Try.prog 11 #[.int .i64 v, .slice none 0 0] W fun e w' => e = .returned (.bool true) ∧ Upd Non W w' :=
  doesF_law v hv none 0 0 (fun _ => 0) (fun _ => 0) W (fun h => absurd h (Nat.lt_irrefl 0))
def four : Array Value := #[.int .i64 0, .int .i64 1, .int .i64 4, .int .i64 2, .int .i64 1, .int .i64 0, .int .i64 3, .int .i64 0]
theorem doesF_four (g : Nat) (W : World) (h : Blk W g four 94) : Calls Try.prog 11 #[.int .i64 9223372036854775807, .slice (some ⟨g, 0, none⟩) 4 4] W fun e w' => e = .returned (.bool true) ∧ Upd Non W w' := by
  refine doesF_law _ (by decide) _ 4 4 (fun j => [0, 4, 1, 3].getD j 0) (fun j => [1, 2, 0, 0].getD j 0) W fun _ => ⟨g, 0, rfl, fun j hj => ?_⟩
  rw [Nat.zero_add]
  rcases (show j = 0 ∨ j = 1 ∨ j = 2 ∨ j = 3 by omega) with rfl | rfl | rfl | rfl
  all_goals exact ⟨h.cell _ rfl, h.cell _ rfl⟩
theorem new_9 (w : World) : Calls Try.prog 50 #[.int .i64 9] w fun e w' => e = .returned (.pointer (some ⟨w.heap.size, 0, none⟩)) ∧ S.FI w' w.heap.size [] 9 w.heap.size ∧ Upd Non w w' := S.new_any 9 (by decide) w

/-- What lies where, ahead of the range and behind it. -/
structure FT (w W : World) (b0 f g bf : Nat) (xs : List ByteArray) : Prop where
  fi : S.FI W f xs 9 g
  bp : Blk W bf #[.pointer (some ⟨f, 0, none⟩)] 97
  rb : Blk W b0 #[.bool false] 4
  up : Upd Non w W
  sep : w.heap.size ≤ b0 ∧ b0 < f ∧ f < bf ∧ b0 < g ∧ g ≠ bf ∧ g < W.heap.size
theorem FT.upd {K : Nat → Prop} {w W W' : World} {b0 f g bf : Nat} {xs : List ByteArray} (h : FT w W b0 f g bf xs) (u : Upd K W W') (hs : ∀ i, K i → i ≠ f ∧ i ≠ g ∧ i ≠ bf ∧ i ≠ b0 ∧ w.heap.size ≤ i) : FT w W' b0 f g bf xs :=
  ⟨S.FI.upd u h.fi (fun k => (hs _ k).1 rfl) (fun k => (hs _ k).2.1 rfl), Blk.upd u h.bp (fun k => (hs _ k).2.2.1 rfl), Blk.upd u h.rb (fun k => (hs _ k).2.2.2.1 rfl),
    Upd.call u h.up (fun i hi k => by have := (hs i k).2.2.2.2; omega), by have := h.sep; have := u.size; omega⟩
theorem FT.non {w W W' : World} {b0 f g bf : Nat} {xs : List ByteArray} (h : FT w W b0 f g bf xs) (u : Upd Non W W') : FT w W' b0 f g bf xs := h.upd u (fun _ k => k.elim)
theorem FT.fifo {w W W' : World} {b0 f g g' bf : Nat} {xs ys : List ByteArray} (h : FT w W b0 f g bf xs) (u : Upd (fun i => i = f ∨ i = g) W W') (hf : S.FI W' f ys 9 g') (hg : g' = g ∨ W.heap.size ≤ g') : FT w W' b0 f g' bf ys := by
  have hs := h.sep
  have hb := h.bp.lt
  have hz := h.up.size
  exact ⟨hf, Blk.upd u h.bp (by omega), Blk.upd u h.rb (by omega), Upd.call u h.up (fun i hi k => by omega), by have := hf.glt; omega⟩
def sa : ByteArray := ⟨#[97]⟩
def sb : ByteArray := ⟨#[98]⟩
def sc : ByteArray := ⟨#[99]⟩
/-- What holds between two rounds of the range. -/
structure FJ (w : World) (rec : LoopState → Option Code → Loop) (D b0 f gf bf bn c gc t : Nat) (W : World) : Prop where
  lp : LoopAt (rec .ready none) D W
  fc : S.FI W c [sa, sb, sc] 9 gc
  ft : FT w W b0 f gf bf ([sa, sb, sc].drop t)
  bn : Blk W bn #[.int .i64 t] 3
  lo : D + 2 ≤ c ∧ D + 2 ≤ gc
  le : t ≤ 1
theorem str_97 (W : World) : (convert 105 9 (.slice (some ⟨W.heap.size, 0, none⟩) 1 1)).run Try.prog (W.alloc (.cells #[.int .u8 97] 5)) = .ok (.string ⟨#[97]⟩) (W.alloc (.cells #[.int .u8 97] 5)) :=
  run_convert_bytes_arg _ 105 5 Try.underlying105 Try.underlying5 W.heap.size 0 1 1 [97] rfl (fun i hi => by obtain rfl : i = 0 := (by omega); exact (Blk.new W #[.int .u8 97] 5).cell 0 rfl) 9 Try.underlying9
theorem str_98 (W : World) : (convert 105 9 (.slice (some ⟨W.heap.size, 0, none⟩) 1 1)).run Try.prog (W.alloc (.cells #[.int .u8 98] 5)) = .ok (.string ⟨#[98]⟩) (W.alloc (.cells #[.int .u8 98] 5)) :=
  run_convert_bytes_arg _ 105 5 Try.underlying105 Try.underlying5 W.heap.size 0 1 1 [98] rfl (fun i hi => by obtain rfl : i = 0 := (by omega); exact (Blk.new W #[.int .u8 98] 5).cell 0 rfl) 9 Try.underlying9

set_option maxRecDepth 100000 in
set_option maxHeartbeats 16000000 in
theorem smallF (w : World) : Calls Try.prog 12 #[] w fun e w' => e = .returned (.bool true) ∧ Upd Non w w' := by
  refine calls_of_wp_range Try.func12 rfl ?_
  simp only [Try.ntmps12, List.size_toArray, List.length_nil, Nat.reduceSub, Array.replicate_succ, Array.replicate_zero, List.push_toArray, List.append_toArray, List.nil_append, List.cons_append]
  go_upto_region 1 with fail
  obtain ⟨wa, hwa⟩ : ∃ x, x = w.alloc (.cells #[.bool false] 4) := ⟨_, rfl⟩
  obtain ⟨b0, hb0⟩ : ∃ x, x = w.heap.size := ⟨_, rfl⟩
  have HR := Lib.hid (show Blk wa b0 #[.bool false] 4 by rw [hwa]; exact Blk.newAt hb0)
  have HU := Lib.hid (show Upd Non w wa by rw [hwa]; ((with_reducible repeat' first | exact Upd.refl _ _ | apply Upd.drew | apply Upd.drewN | apply Upd.alloc | refine Upd.setCell ?_ ?_) <;> first | (intro _ _ h; exact h) | (intro _ _ h; exact h.elim) | (intro i h1 h2; exfalso; (try simp only at h2); omega) | (left; rfl) | (right; dsimp only; omega) | (right; omega)))
  have hbw : w.heap.size ≤ b0 := by omega
  rw [← hwa, ← hb0]
  clear hwa hb0
  go_wp2_with fail
  go_loopw [1] (fun i wr => ∃ t : Nat, t ≤ 4096 ∧ i = .int .i64 t ∧ Blk wr b0 #[.bool false] 4 ∧ Upd Non w wr) (fun i _ => 4096 - (intOf i).toNat)
  case atStart => exact ⟨0, by omega, rfl, HR.out, HU.out⟩
  case round =>
    clear HR HU
    obtain ⟨t, ht, rfl, hr, hu⟩ := hrel
    have HR := Lib.hid hr
    have HU := Lib.hid hu
    have hrl := hr.lt
    clear hr hu
    by_cases hlt : t < 4096
    case pos =>
      have k1 : (t : Int) < 4096 := by omega
      go_wp2_with fail
      obtain ⟨B, hB⟩ : ∃ x, x = wr.heap.size := ⟨_, rfl⟩
      rw [← hB] at hrl
      have HB := Lib.hid (show B ≤ wr.heap.size by omega)
      clear hB
      go_loopw [2, 3] (fun v k w1 => ∃ q : Nat, q ≤ 6 ∧ k = .int .i64 q ∧ PRow w1 B 94 v q ∧ Blk w1 b0 #[.bool false] 4 ∧ Upd Non w w1 ∧ B ≤ w1.heap.size) (fun _ k _ => 6 - (intOf k).toNat)
      case atStart => exact ⟨0, by omega, rfl, PRow.nil _ _ _, HR.out, HU.out, HB.out⟩
      case round =>
        clear HR HU k1 HB
        obtain ⟨q, hq, rfl, hp, hr, hu, hb⟩ := hrel
        obtain ⟨A, c, rfl⟩ := hp.slice
        have HP := Lib.hid hp
        have HR := Lib.hid hr
        have HU := Lib.hid hu
        have hzz := hu.size
        clear hp hr hu
        by_cases hlt2 : q < 6
        case neg =>
          have k2 : ¬ (q : Int) < 6 := by omega
          go_wp2_with (at_builtin; refine wpList_pappend rfl _ _ 88 94 rfl Try.underlying88 Try.info94 rfl (PRow.non (by ((with_reducible repeat' first | exact Upd.refl _ _ | apply Upd.drew | apply Upd.drewN | apply Upd.alloc | refine Upd.setCell ?_ ?_) <;> first | (intro _ _ h; exact h) | (intro _ _ h; exact h.elim) | (intro i h1 h2; exfalso; (try simp only at h2); omega) | (left; rfl) | (right; dsimp only; omega) | (right; omega))) HP.out) wr.heap.size _ _ rfl (Blk.new _ _ _) (by omega) (by rw [World.size_alloc]; omega) ?_; intro v' w' hp' U'; obtain ⟨A', c', rfl⟩ := hp'.slice)
          have HR' := Lib.hid (Blk.upd U' (Blk.alloc HR.out) (by omega))
          have HU' := Lib.hid (show Upd Non w w' from Upd.call U' (by have h := HU.out; ((with_reducible repeat' first | exact Upd.refl _ _ | apply Upd.drew | apply Upd.drewN | apply Upd.alloc | refine Upd.setCell ?_ ?_ | refine Upd.call h ?_ ?_) <;> first | (intro _ _ h; exact h) | (intro _ _ h; exact h.elim) | (intro i h1 h2; exfalso; (try simp only at h2); omega) | (left; rfl) | (right; dsimp only; omega) | (right; omega)) : Upd Non w _) (fun i hi h => by omega))
          have HP' := Lib.hid hp'
          clear hp' U' HR HU HP
          go_wp2_with fail
          refine (doesF_row _ (by omega) HP'.out).mono ?_
          rintro e w2 ⟨rfl, U2⟩
          have HU2 := Lib.hid (by have h := HU'.out; ((with_reducible repeat' first | exact Upd.refl _ _ | apply Upd.drew | apply Upd.drewN | apply Upd.alloc | refine Upd.setCell ?_ ?_ | refine Upd.call U2 ?_ ?_ | refine Upd.call h ?_ ?_) <;> first | (intro _ _ h; exact h) | (intro _ _ h; exact h.elim) | (intro i h1 h2; exfalso; (try simp only at h2); omega) | (left; rfl) | (right; dsimp only; omega) | (right; omega)) : Upd Non w w2)
          have HR2 := Lib.hid (Blk.upd U2 HR'.out id)
          clear U2 HP' HR' HU'
          go_wp2_with fail
          go_roundw
          case rel => exact ⟨t + 1, by omega, by go_num, HR2.out, HU2.out⟩
          case measure => simp [intOf]; omega
        have k2 : (q : Int) < 6 := by omega
        have k3 : ¬ (2 * (q : Int)) < 0 := by omega
        go_wp2_with (at_builtin; refine wpList_pappend rfl _ _ 88 94 rfl Try.underlying88 Try.info94 rfl (PRow.non (by ((with_reducible repeat' first | exact Upd.refl _ _ | apply Upd.drew | apply Upd.drewN | apply Upd.alloc | refine Upd.setCell ?_ ?_) <;> first | (intro _ _ h; exact h) | (intro _ _ h; exact h.elim) | (intro i h1 h2; exfalso; (try simp only at h2); omega) | (left; rfl) | (right; dsimp only; omega) | (right; omega))) HP.out) wr.heap.size _ _ rfl (Blk.new _ _ _) (by omega) (by rw [World.size_alloc]; omega) ?_; intro v' w' hp' U')
        have HR' := Lib.hid (Blk.upd U' (Blk.alloc HR.out) (by omega))
        have HU' := Lib.hid (show Upd Non w w' from Upd.call U' (by have h := HU.out; ((with_reducible repeat' first | exact Upd.refl _ _ | apply Upd.drew | apply Upd.drewN | apply Upd.alloc | refine Upd.setCell ?_ ?_ | refine Upd.call h ?_ ?_) <;> first | (intro _ _ h; exact h) | (intro _ _ h; exact h.elim) | (intro i h1 h2; exfalso; (try simp only at h2); omega) | (left; rfl) | (right; dsimp only; omega) | (right; omega)) : Upd Non w _) (fun i hi h => by omega))
        have HP' := Lib.hid hp'
        have hz' := U'.size
        rw [World.size_alloc] at hz'
        clear hp' U' HR HU HP
        go_wp2_with fail
        go_roundw
        case rel => exact ⟨q + 1, by omega, by go_num, HP'.out, HR'.out, HU'.out, by omega⟩
        case measure => simp [intOf]; omega
    have k1 : ¬ (t : Int) < 4096 := by omega
    go_wp2_with fail
    refine (doesF_four _ _ (Blk.new _ _ _)).mono ?_
    rintro e w2 ⟨rfl, U2⟩
    have HU2 := Lib.hid (by have h := HU.out; ((with_reducible repeat' first | exact Upd.refl _ _ | apply Upd.drew | apply Upd.drewN | apply Upd.alloc | refine Upd.setCell ?_ ?_ | refine Upd.call U2 ?_ ?_ | refine Upd.call h ?_ ?_) <;> first | (intro _ _ h; exact h) | (intro _ _ h; exact h.elim) | (intro i h1 h2; exfalso; (try simp only at h2); omega) | (left; rfl) | (right; dsimp only; omega) | (right; omega)) : Upd Non w w2)
    have HR2 := Lib.hid (Blk.upd U2 (Blk.alloc HR.out) id)
    clear U2 HR HU hrl hlt k1 ht
    go_wp2_with fail
    refine (doesF_nil _ (by decide) _).mono ?_
    rintro e w3 ⟨rfl, U2⟩
    have HU3 := Lib.hid (by have h := HU2.out; ((with_reducible repeat' first | exact Upd.refl _ _ | apply Upd.drew | apply Upd.drewN | apply Upd.alloc | refine Upd.setCell ?_ ?_ | refine Upd.call U2 ?_ ?_ | refine Upd.call h ?_ ?_) <;> first | (intro _ _ h; exact h) | (intro _ _ h; exact h.elim) | (intro i h1 h2; exfalso; (try simp only at h2); omega) | (left; rfl) | (right; dsimp only; omega) | (right; omega)) : Upd Non w w3)
    have HR3 := Lib.hid (Blk.upd U2 HR2.out id)
    clear U2 HR2 HU2
    go_wp2_with fail
    refine (doesF_nil _ (by decide) _).mono ?_
    rintro e w4 ⟨rfl, U2⟩
    have HU4 := Lib.hid (by have h := HU3.out; ((with_reducible repeat' first | exact Upd.refl _ _ | apply Upd.drew | apply Upd.drewN | apply Upd.alloc | refine Upd.setCell ?_ ?_ | refine Upd.call U2 ?_ ?_ | refine Upd.call h ?_ ?_) <;> first | (intro _ _ h; exact h) | (intro _ _ h; exact h.elim) | (intro i h1 h2; exfalso; (try simp only at h2); omega) | (left; rfl) | (right; dsimp only; omega) | (right; omega)) : Upd Non w w4)
    have HR4 := Lib.hid (Blk.upd U2 HR3.out id)
    clear U2 HR3 HU3
    go_wp2_with fail
    refine (new_9 _).mono ?_
    rintro e w5 ⟨rfl, hF, U2⟩
    obtain ⟨f, hf⟩ : ∃ x, x = w4.heap.size := ⟨_, rfl⟩
    rw [← hf] at hF ⊢
    have HF5 := Lib.hid hF
    have HU5 := Lib.hid (by have h := HU4.out; ((with_reducible repeat' first | exact Upd.refl _ _ | apply Upd.drew | apply Upd.drewN | apply Upd.alloc | refine Upd.setCell ?_ ?_ | refine Upd.call U2 ?_ ?_ | refine Upd.call h ?_ ?_) <;> first | (intro _ _ h; exact h) | (intro _ _ h; exact h.elim) | (intro i h1 h2; exfalso; (try simp only at h2); omega) | (left; rfl) | (right; dsimp only; omega) | (right; omega)) : Upd Non w w5)
    have HR5 := Lib.hid (Blk.upd U2 HR4.out id)
    have hbf : b0 < f := by have := HR4.out.lt; omega
    clear U2 HR4 HU4 hF hf
    go_upto_region 14 with fail
    obtain ⟨bf, hbf2⟩ : ∃ x, x = w5.heap.size := ⟨_, rfl⟩
    obtain ⟨w6, hw6⟩ : ∃ x, x = w5.alloc (.cells #[.pointer (some ⟨f, 0, none⟩)] 97) := ⟨_, rfl⟩
    have HT6 := Lib.hid (show FT w w6 b0 f f bf [] from by
      rw [hw6]
      have h1 := HF5.out.lt
      exact ⟨S.FI.non (by ((with_reducible repeat' first | exact Upd.refl _ _ | apply Upd.drew | apply Upd.drewN | apply Upd.alloc | refine Upd.setCell ?_ ?_) <;> first | (intro _ _ h; exact h) | (intro _ _ h; exact h.elim) | (intro i h1 h2; exfalso; (try simp only at h2); omega) | (left; rfl) | (right; dsimp only; omega) | (right; omega))) HF5.out, Blk.newAt hbf2, Blk.alloc HR5.out, HU5.out.alloc, by rw [World.size_alloc]; omega⟩)
    rw [← hw6, ← hbf2]
    clear hw6 hbf2 HF5 HU5 HR5
    have p6 := HT6.out.bp.cell 0 rfl
    go_wp2_with fail
    refine (S.put_is ⟨#[97]⟩ true [sa] (by decide) rfl rfl _ HT6.out.fi).mono ?_
    rintro e w7 ⟨rfl, ⟨g7, hg7, hF⟩, U⟩
    have HT7 := Lib.hid (HT6.out.fifo U hF hg7)
    clear hF U hg7 HT6 p6
    have p7 := HT7.out.bp.cell 0 rfl
    go_wp2_with fail
    refine (S.put_is ⟨#[98]⟩ true [sa, sb] (by decide) rfl rfl _ HT7.out.fi).mono ?_
    rintro e w8 ⟨rfl, ⟨g8, hg8, hF⟩, U⟩
    have HT8 := Lib.hid (HT7.out.fifo U hF hg8)
    clear hF U hg8 HT7 p7
    have p8 := HT8.out.bp.cell 0 rfl
    go_wp2_with fail
    refine (S.put_is ⟨#[99]⟩ true [sa, sb, sc] (by decide) rfl rfl _ HT8.out.fi).mono ?_
    rintro e w9 ⟨rfl, ⟨g, hg9, hF⟩, U⟩
    have HT9 := Lib.hid (HT8.out.fifo U hF hg9)
    clear hF U hg9 HT8 p8
    have p9 := HT9.out.bp.cell 0 rfl
    go_upto_region 18 with fail
    obtain ⟨bn, hbn⟩ : ∃ x, x = w9.heap.size := ⟨_, rfl⟩
    obtain ⟨w10, hw10⟩ : ∃ x, x = w9.alloc (.cells #[.int .i64 0] 3) := ⟨_, rfl⟩
    have HT10 := Lib.hid (show FT w w10 b0 f g bf [sa, sb, sc] from by rw [hw10]; exact HT9.out.non (by ((with_reducible repeat' first | exact Upd.refl _ _ | apply Upd.drew | apply Upd.drewN | apply Upd.alloc | refine Upd.setCell ?_ ?_) <;> first | (intro _ _ h; exact h) | (intro _ _ h; exact h.elim) | (intro i h1 h2; exfalso; (try simp only at h2); omega) | (left; rfl) | (right; dsimp only; omega) | (right; omega))))
    have HN10 := Lib.hid (show Blk w10 bn #[.int .i64 0] 3 by rw [hw10]; exact Blk.newAt hbn)
    have hbn2 : bf < bn ∧ g < bn := by have h1 := HT9.out.bp.lt; have h2 := HT9.out.fi.glt; omega
    have hsep := HT9.out.sep
    rw [← hw10, ← hbn]
    clear hw10 hbn HT9 p9
    have p10 := HT10.out.bp.cell 0 rfl
    go_wp2_with fail
    refine (S.all_spec f _).mono ?_
    rintro e w11 ⟨rfl, hw11⟩
    obtain ⟨bx, hbx⟩ : ∃ x, x = w10.heap.size := ⟨_, rfl⟩
    have hU11 : Upd Non w10 w11 := by rw [hw11]; exact (Upd.refl _ _).alloc
    have HX := Lib.hid (show w11.cell? ⟨bx, 0, none⟩ = some (.pointer (some ⟨f, 0, none⟩)) by rw [hw11]; exact (Blk.newAt hbx : Blk _ bx _ 97).cell 0 rfl)
    have HT11 := Lib.hid (HT10.out.non hU11)
    have HN11 := Lib.hid (Blk.upd hU11 HN10.out id)
    rw [← hbx]
    clear hw11 hbx hU11 HT10 HN10 p10
    go_wp2_with fail
    refine wp_range (gf := 84) (lb := #[.pointer (some ⟨bx, 0, none⟩)]) rfl (enters_of Try.func84 (by kernel_rfl) rfl) ?_
    intro fn rec hrec W1 hL hU1 hz
    obtain ⟨D, hD⟩ : ∃ D, D = w11.heap.size := ⟨_, rfl⟩
    rw [← hD] at hrec hL hz ⊢
    have HREC := Lib.hid hrec
    have hcon : bn < D := by have := HN11.out.lt; omega
    have hX1 : W1.cell? ⟨bx, 0, none⟩ = some (.pointer (some ⟨f, 0, none⟩)) := hU1.cell_eq id HX.out
    have HT1 := Lib.hid (HT11.out.non hU1)
    have HN1 := Lib.hid (Blk.upd hU1 HN11.out id)
    clear hD hrec HT11 HN11 HX
    refine Calls.mono (R := fun e W' => e = .returned (.tuple #[]) ∧ ((∃ c2 g2, FJ w rec D b0 f g bf bn c2 g2 3 W') ∨ (LoopAt (rec .done (some (.exit 4))) D W' ∧ FT w W' b0 f g bf [sc] ∧ Blk W' bn #[.int .i64 2] 3))) (S.all_run (b := f) (m := 9) (g := g) (l := D + 1) (bx := bx) (xs := [sa, sb, sc]) (by decide) W1 hX1 HT1.out.fi (FJ w rec D b0 f g bf bn) (fun W' => LoopAt (rec .done (some (.exit 4))) D W' ∧ FT w W' b0 f g bf [sc] ∧ Blk W' bn #[.int .i64 2] 3) ?h0 ?hFI ?hdr ?hY) ?hend
    case h0 =>
      intro c2 g2 W' U hc2 hg2 hf
      have h1 := U.size
      exact ⟨hL.upd U id id, hf, HT1.out.non U, Blk.upd U HN1.out id, by omega, by omega⟩
    case hFI => exact fun _ _ _ _ h => h.fc
    case hdr =>
      intro c2 g2 u k W' h
      exact ⟨⟨h.lp.l, h.lp.d⟩, h.fc.drewN, h.ft.non (Upd.refl _ _).drewN, h.bn, h.lo, h.le⟩
    case hY =>
      intro c2 g2 u v W' hJ hv
      refine yield_at HREC.out hJ.lp rfl ?_
      gi_wp2
      refine ⟨rfl, fun W2 hU2 hL2 => ?_⟩
      have hlo := hJ.lo
      have ht2 := hJ.ft.upd hU2 (fun i hi => by omega)
      have hn2 := Blk.upd hU2 hJ.bn (by omega)
      have hc2 := S.FI.upd hU2 hJ.fc (by omega) (by omega)
      have hle := hJ.le
      have HH := Lib.hid (And.intro ht2 (And.intro hn2 (And.intro hc2 hL2)))
      have p2 := ht2.bp.cell 0 rfl
      have hll := hL2.lt
      clear hJ ht2 hn2 hc2 hL2 hU2 hL hU1 hX1 HT1 HN1
      have c97 := str_97
      have c98 := str_98
      rcases (show u = 0 ∨ u = 1 by omega) with rfl | rfl
      · obtain rfl : sa = v := by simpa using hv
        clear hv
        gi_wp2
        refine ⟨trivial, (CallsIn.inRound _ (callsIn_wide.2 (S.take_is sa true [sb, sc] rfl rfl rfl _ HH.out.1.fi))).mono ?_⟩
        rintro e w3 ⟨rfl, hF, U⟩
        have HT3 := Lib.hid (HH.out.1.fifo (U.mono fun _ _ h => .inl h) hF (.inl rfl))
        have HN3 := Lib.hid (Blk.upd U HH.out.2.1 (by omega))
        have HC3 := Lib.hid (S.FI.upd U HH.out.2.2.1 (by omega) (by omega))
        have HL3 := Lib.hid (LoopAt.upd U HH.out.2.2.2 (by omega) (by omega))
        clear U hF p2 HH
        have p3 := HT3.out.bp.cell 0 rfl
        have n3 := HN3.out.cell 0 rfl
        have m3 := HN3.out.frozen 0
        unfold sa
        have hnl := HN3.out.lt
        gi_wp2
        obtain ⟨wx, hwx⟩ : ∃ x, x = ((w3.setCell ⟨bn, 0, none⟩ (.int .i64 1)).alloc (.cells #[.int .u8 97] 5)) := ⟨_, rfl⟩
        have ux : Upd (fun i => i = bn) w3 wx := by rw [hwx]; ((with_reducible repeat' first | exact Upd.refl _ _ | apply Upd.drew | apply Upd.drewN | apply Upd.alloc | refine Upd.setCell ?_ ?_) <;> first | (intro _ _ h; exact h) | (intro _ _ h; exact h.elim) | (intro i h1 h2; exfalso; (try simp only at h2); omega) | (left; rfl) | (right; dsimp only; omega) | (right; omega))
        have hn9 : Blk wx bn #[.int .i64 1] 3 := by rw [hwx]; exact Blk.alloc (Blk.set HN3.out)
        rw [← hwx]
        have ht9 := HT3.out.upd ux (fun i hi => by omega)
        have hc9 := S.FI.upd ux HC3.out (by omega) (by omega)
        refine ⟨LoopAt.upd ux HL3.out (by omega) (by omega), fun W4 hU4 hL4 => .inl ⟨rfl, hL4, S.FI.upd hU4 hc9 (by omega) (by omega), ht9.upd hU4 (fun i hi => by omega), Blk.upd hU4 hn9 (by omega), hlo, by omega⟩⟩
      · obtain rfl : sb = v := by simpa using hv
        clear hv
        gi_wp2
        refine ⟨trivial, (CallsIn.inRound _ (callsIn_wide.2 (S.take_is sb true [sc] rfl rfl rfl _ HH.out.1.fi))).mono ?_⟩
        rintro e w3 ⟨rfl, hF, U⟩
        have HT3 := Lib.hid (HH.out.1.fifo (U.mono fun _ _ h => .inl h) hF (.inl rfl))
        have HN3 := Lib.hid (Blk.upd U HH.out.2.1 (by omega))
        have HC3 := Lib.hid (S.FI.upd U HH.out.2.2.1 (by omega) (by omega))
        have HL3 := Lib.hid (LoopAt.upd U HH.out.2.2.2 (by omega) (by omega))
        clear U hF p2 HH
        have p3 := HT3.out.bp.cell 0 rfl
        have n3 := HN3.out.cell 0 rfl
        have m3 := HN3.out.frozen 0
        unfold sb
        have hnl := HN3.out.lt
        gi_wp2
        obtain ⟨wx, hwx⟩ : ∃ x, x = ((w3.setCell ⟨bn, 0, none⟩ (.int .i64 2)).alloc (.cells #[.int .u8 98] 5)) := ⟨_, rfl⟩
        have ux : Upd (fun i => i = bn) w3 wx := by rw [hwx]; ((with_reducible repeat' first | exact Upd.refl _ _ | apply Upd.drew | apply Upd.drewN | apply Upd.alloc | refine Upd.setCell ?_ ?_) <;> first | (intro _ _ h; exact h) | (intro _ _ h; exact h.elim) | (intro i h1 h2; exfalso; (try simp only at h2); omega) | (left; rfl) | (right; dsimp only; omega) | (right; omega))
        have hn9 : Blk wx bn #[.int .i64 2] 3 := by rw [hwx]; exact Blk.alloc (Blk.set HN3.out)
        rw [← hwx]
        have ht9 := HT3.out.upd ux (fun i hi => by omega)
        have hc9 := S.FI.upd ux HC3.out (by omega) (by omega)
        refine ⟨LoopAt.upd ux HL3.out (by omega) (by omega), fun W4 hU4 hL4 => .inr ⟨rfl, hL4, ht9.upd hU4 (fun i hi => by omega), Blk.upd hU4 hn9 (by omega)⟩⟩
    case hend =>
      rintro e W' ⟨rfl, ⟨c2, g2, hJ⟩ | ⟨hl, ht, hn⟩⟩
      · exact absurd hJ.le (by decide)
      · refine ⟨⟨_, rfl⟩, .inr ⟨_, hl, fun W4 hU4 hd4 => ?_⟩⟩
        have HT4 := Lib.hid (ht.upd hU4 (fun i hi => by omega))
        have HN4 := Lib.hid (Blk.upd hU4 hn (by omega))
        have HD4 := Lib.hid hd4
        have hd4l : D < W4.heap.size := (Array.getElem?_eq_some_iff.1 hd4).1
        have p4 := HT4.out.bp.cell 0 rfl
        have n4 := HN4.out.cell 0 rfl
        clear hl ht hn hU4 hd4 hL hU1 hX1 HT1 HN1
        go_wp2_with fail
        refine (S.len_any _ HT4.out.fi).mono ?_
        rintro e w8 ⟨rfl, rfl⟩
        rw [show [sc].length = 1 from rfl]
        go_wp2_with fail
        refine (none_law _).mono ?_
        rintro e w8 ⟨rfl, U⟩
        have HT8 := Lib.hid (HT4.out.non U)
        have HD8 := Lib.hid ((U.block D hd4l id).trans HD4.out)
        clear U HT4 HD4 HN4 p4 n4
        go_wp2_with fail
        refine (awake_spec05 _).mono ?_
        rintro e w9 ⟨rfl, U⟩
        have HT9 := Lib.hid (HT8.out.non U)
        have HD9 := Lib.hid ((U.block D (Array.getElem?_eq_some_iff.1 HD8.out).1 id).trans HD8.out)
        clear U HT8 HD8
        have r9 := HT9.out.rb.cell 0 rfl
        have s9 := HT9.out.rb.frozen 0
        go_wp2_with fail
        have hne : b0 ≠ D := by omega
        refine postM_ret1 (v := .bool true) (D := D) ?_ rfl ?_ ?_
        · intro w' hU'
          have hc : w'.cell? ⟨b0, 0, none⟩ = some (.bool true) := (Blk.upd hU' (Blk.set HT9.out.rb) hne).cell 0 rfl
          simp [results, Try.results12, go_sem, hc]
        · exact (show Upd (fun i => i = b0) w9 _ by ((with_reducible repeat' first | exact Upd.refl _ _ | apply Upd.drew | apply Upd.drewN | apply Upd.alloc | refine Upd.setCell ?_ ?_) <;> first | (intro _ _ h; exact h) | (intro _ _ h; exact h.elim) | (intro i h1 h2; exfalso; (try simp only at h2); omega) | (left; rfl) | (right; dsimp only; omega) | (right; omega))).block D (Array.getElem?_eq_some_iff.1 HD9.out).1 (fun e => hne e.symm) |>.trans HD9.out
        · intro w' hU'
          have h := HT9.out.up
          exact ⟨rfl, by ((with_reducible repeat' first | exact Upd.refl _ _ | apply Upd.drew | apply Upd.drewN | apply Upd.alloc | refine Upd.setCell ?_ ?_ | refine Upd.call hU' ?_ ?_ | refine Upd.call h ?_ ?_) <;> first | (intro _ _ h; exact h) | (intro _ _ h; exact h.elim) | (intro i h1 h2; exfalso; (try simp only at h2); omega) | (left; rfl) | (right; dsimp only; omega) | (right; omega))⟩
end Go.Proofs.Ytmblplhehbdocaa
