/- FifoDoes: the law's walk. Conditions: the arguments read as numbers. -/
import Derived.Test.YtmblplhehbdocaaFifoSame
import Derived.Deep.CutBlock
namespace Go.Proofs.Ytmblplhehbdocaa
open Go.RowKit

/-- What the law knows between two steps: the fifo's things, the document's, and where they lie. -/
structure DI (w W : World) (b g rr r R : Nat) (xs ys : List Int) : Prop where
  fi : FI W b xs R g
  rf : RF W w.heap.size rr ys R r
  up : Upd Non w W
  sep : w.heap.size ≤ b ∧ w.heap.size ≤ g ∧ w.heap.size ≤ rr ∧ b ≠ rr ∧ g ≠ rr
  row : (Blk W rr #[.int .i64 R, .slice none 0 0] 91 ∧ ys = []) ∨ (b ≠ r ∧ g ≠ r)
theorem DI.non {w W W' : World} {b g rr r R : Nat} {xs ys : List Int} (h : DI w W b g rr r R xs ys) (u : Upd Non W W') : DI w W' b g rr r R xs ys :=
  ⟨h.fi.non u, h.rf.non u, Upd.call u h.up (fun _ _ k => k), h.sep, h.row.imp (fun k => ⟨Blk.upd u k.1 id, k.2⟩) id⟩
theorem DI.fifo {w W W' : World} {b g g' rr r R : Nat} {xs xs' ys : List Int} (h : DI w W b g rr r R xs ys) (u : Upd (fun i => i = b ∨ i = g) W W') (hf : FI W' b xs' R g') (hg : g' = g ∨ W.heap.size ≤ g') : DI w W' b g' rr r R xs' ys := by
  have hs := h.sep
  have h1 := h.rf.lt
  have h2 := h.up.size
  have h3 := u.size
  rcases h.row with ⟨k1, rfl⟩ | ⟨k1, k2⟩
  · have k3 := Blk.upd u k1 (by omega)
    exact ⟨hf, RF.of_nil k3 (by omega) (by omega) h1.2.2.1, Upd.call u h.up (fun i hi k => by omega), by omega, .inl ⟨k3, rfl⟩⟩
  · exact ⟨hf, h.rf.upd u (by omega) (by omega), Upd.call u h.up (fun i hi k => by omega), by omega, .inr (by omega)⟩
theorem DI.push {w W W' : World} {b g rr r r' R : Nat} {xs ys ys' : List Int} (h : DI w W b g rr r R xs ys) (u : Upd (fun i => i = rr ∨ (i = r ∧ ¬ Blk W rr #[.int .i64 R, .slice none 0 0] 91)) W W') (hf : RF W' w.heap.size rr ys' R r')
    (hr : (r' = r ∧ ¬ Blk W rr #[.int .i64 R, .slice none 0 0] 91) ∨ W.heap.size ≤ r') : DI w W' b g rr r' R xs ys' := by
  have hs := h.sep
  have h1 := h.rf.lt
  have h2 := h.fi.lt
  have h3 := h.fi.glt
  have h4 := h.up.size
  rcases h.row with ⟨k1, _⟩ | ⟨k1, k2⟩
  · exact ⟨h.fi.upd u (by rintro (k | ⟨_, k⟩); exact hs.2.2.2.1 k; exact k k1) (by rintro (k | ⟨_, k⟩); exact hs.2.2.2.2 k; exact k k1), hf, Upd.call u h.up (by rintro i hi (k | ⟨_, k⟩); omega; exact k k1), hs,
      .inr (by rcases hr with ⟨_, k⟩ | k; exact absurd k1 k; omega)⟩
  · have u2 : Upd (fun i => i = rr ∨ i = r) W W' := u.mono (fun i _ k => k.imp id (fun k => k.1))
    exact ⟨h.fi.upd u2 (by omega) (by omega), hf, Upd.call u2 h.up (fun i hi k => by omega), hs, .inr (by rcases hr with ⟨k, _⟩ | k <;> omega)⟩
/-- The document's head alone has turned, the row lies where it lay. -/
theorem DI.head {w W W' : World} {b g rr r R : Nat} {xs ys ys' : List Int} (h : DI w W b g rr r R xs ys) (u : Upd (fun i => i = rr) W W') (hf : RF W' w.heap.size rr ys' R r)
    (hr : (b ≠ r ∧ g ≠ r) ∨ (Blk W' rr #[.int .i64 R, .slice none 0 0] 91 ∧ ys' = [])) : DI w W' b g rr r R xs ys' := by
  have hs := h.sep
  exact ⟨h.fi.upd u (by omega) (by omega), hf, Upd.call u h.up (fun i hi k => by omega), hs, hr.symm⟩

theorem seed_spec (x : Int) (w : World) : Calls Try.prog 45 #[.int .i64 x] w fun e w' => e = .returned (.int .i64 (x % 5)) ∧ w = w' := by
  go_enter Try.func45, Try.ntmps45
  go_wp2_with (go_at_call 16; refine (pick_spec x 5 (by decide) (by decide) _).mono ?_; rintro e w1 ⟨rfl, rfl⟩)
  go_ret
  exact ⟨rfl, rfl⟩
theorem doesF_long (v : Int) (A : Option Addr) (n c : Nat) (h : 300 < n) (w : World) :
    Calls Try.prog 11 #[.int .i64 v, .slice A n c] w fun e w' => e = .returned (.bool true) ∧ Upd Non w w' := by
  have h1 : (300 : Int) < n := by omega
  clear h
  go_enter Try.func11, Try.ntmps11
  go_wp2_with (go_at_call 21; refine (awake_spec05 _).mono ?_; rintro e w1 ⟨rfl, hU1⟩)
  go_ret
  exact ⟨rfl, by ((with_reducible repeat' first | exact Upd.refl _ _ | apply Upd.drew | apply Upd.drewN | apply Upd.alloc | refine Upd.setCell ?_ ?_ | refine Upd.call hU1 ?_ ?_) <;> first | (intro _ _ h; exact h) | (intro _ _ h; exact h.elim) | (intro i h1 h2; exfalso; (try simp only at h2); omega) | (left; rfl) | (right; dsimp only; omega) | (right; omega))⟩
theorem doesF_neg (v : Int) (A : Option Addr) (n c : Nat) (h : ¬ 300 < n) (hv : v < 0) (w : World) :
    Calls Try.prog 11 #[.int .i64 v, .slice A n c] w fun e w' => e = .returned (.bool true) ∧ Upd Non w w' := by
  have h1 : ¬ (300 : Int) < n := by omega
  clear h
  go_enter Try.func11, Try.ntmps11
  go_wp2_with (first | (go_at_call 22; refine (new_none v hv _).mono ?_; rintro e w1 ⟨rfl, rfl⟩) | (go_at_call 21; refine (awake_spec05 _).mono ?_; rintro e w1 ⟨rfl, hU1⟩))
  go_ret
  exact ⟨rfl, by ((with_reducible repeat' first | exact Upd.refl _ _ | apply Upd.drew | apply Upd.drewN | apply Upd.alloc | refine Upd.setCell ?_ ?_ | refine Upd.call hU1 ?_ ?_) <;> first | (intro _ _ h; exact h) | (intro _ _ h; exact h.elim) | (intro i h1 h2; exfalso; (try simp only at h2); omega) | (left; rfl) | (right; dsimp only; omega) | (right; omega))⟩

set_option maxRecDepth 100000 in
set_option maxHeartbeats 16000000 in
theorem doesF_some (R : Nat) (hR : R ≤ maxI) (A : Option Addr) (N cc : Nat) (H X : Nat → Int) (h2 : N ≤ 300) (w : World)
    (hd : 0 < N → ∃ b o, A = some ⟨b, o, none⟩ ∧ ∀ j, j < N → w.cell? ⟨b, o + j * 2, none⟩ = some (.int .i64 (H j)) ∧ w.cell? ⟨b, o + j * 2 + 1, none⟩ = some (.int .i64 (X j))) :
    Calls Try.prog 11 #[.int .i64 R, .slice A N cc] w fun e w' => e = .returned (.bool true) ∧ Upd Non w w' := by
  have k0 : ¬ (300 : Int) < N := by omega
  have k2 : ¬ (R : Int) < 0 := by omega
  have HD := Lib.hid hd
  have HR := Lib.hid hR
  clear hd hR
  go_enter Try.func11, Try.ntmps11
  go_wp2_with fail
  refine (new_any R HR.out _).mono ?_
  rintro e w2 ⟨rfl, hF, U⟩
  obtain ⟨b, hb⟩ : ∃ x, x = w.heap.size := ⟨_, rfl⟩
  rw [← hb] at hF ⊢
  have HF2 := Lib.hid hF
  have HU2 := Lib.hid U
  have hbl := hF.lt
  have hgl := hF.glt
  have hbw : w.heap.size ≤ b := by omega
  clear hF U hb
  go_wp2_with fail
  obtain ⟨rr, hrr⟩ : ∃ x, x = w2.heap.size := ⟨_, rfl⟩
  have hb91 : Blk (w2.alloc (.cells #[.int .i64 R, .slice none 0 0] 91)) rr #[.int .i64 R, .slice none 0 0] 91 := Blk.newAt hrr
  have HT := Lib.hid (show DI w (w2.alloc (.cells #[.int .i64 R, .slice none 0 0] 91)) b b rr b R [] [] from
    ⟨HF2.out.non (by ((with_reducible repeat' first | exact Upd.refl _ _ | apply Upd.drew | apply Upd.drewN | apply Upd.alloc | refine Upd.setCell ?_ ?_) <;> first | (intro _ _ h; exact h) | (intro _ _ h; exact h.elim) | (intro i h1 h2; exfalso; (try simp only at h2); omega) | (left; rfl) | (right; dsimp only; omega) | (right; omega))), RF.of_nil hb91 hbw (by rw [World.size_alloc]; omega) (by omega), HU2.out.alloc, by omega, .inl ⟨hb91, rfl⟩⟩)
  rw [← hrr]
  clear hb91 hrr HF2 HU2 hbl hgl
  go_loopw [5, 7] (fun p i wr => ∃ (t b g r : Nat) (xs : List Int), t ≤ N ∧ p = .pointer (some ⟨b, 0, none⟩) ∧ i = .int .i64 t ∧ xs.length ≤ 2 * t ∧ DI w wr b g rr r R xs xs) (fun _ i _ => N - (intOf i).toNat)
  case atStart => exact ⟨0, b, b, b, [], Nat.zero_le _, rfl, rfl, Nat.le_refl _, HT.out⟩
  case round =>
    clear HT hbw
    obtain ⟨t, b, g, r, xs, ht, rfl, rfl, hxl, hT⟩ := hrel
    have HT := Lib.hid hT
    have HXL := Lib.hid (show xs.length ≤ 600 by omega)
    have HXT := Lib.hid hxl
    clear hT hxl
    by_cases hlt : t < N
    case neg =>
      have k1 : ¬ (t : Int) < N := by omega
      go_wp2_with fail
      refine (awake_spec05 _).mono ?_
      rintro e w3 ⟨rfl, U⟩
      go_wp2_with fail
      go_ret
      exact ⟨rfl, by have h := HT.out.up; ((with_reducible repeat' first | exact Upd.refl _ _ | apply Upd.drew | apply Upd.drewN | apply Upd.alloc | refine Upd.setCell ?_ ?_ | refine Upd.call U ?_ ?_ | refine Upd.call h ?_ ?_) <;> first | (intro _ _ h; exact h) | (intro _ _ h; exact h.elim) | (intro i h1 h2; exfalso; (try simp only at h2); omega) | (left; rfl) | (right; dsimp only; omega) | (right; omega))⟩
    have k1 : (t : Int) < N := by omega
    obtain ⟨ba, o, rfl, hcells⟩ := HD.out (by omega)
    obtain ⟨ce0, ce1⟩ := hcells t hlt
    have CE := Lib.hid (And.intro ce0 ce1)
    have hba : ba < w.heap.size := World.block_lt_of_cell? _ _ ce0
    have d0 := HT.out.up.cell_eq id CE.out.1
    have d1 := HT.out.up.cell_eq id CE.out.2
    clear hcells ce0 ce1 HD
    go_wp2_with fail
    refine (seed_spec (H t) _).mono ?_
    rintro e w3 ⟨rfl, rfl⟩
    obtain ⟨hh, hhe⟩ : ∃ x, x = H t % 5 := ⟨_, rfl⟩
    have hh5 : 0 ≤ hh ∧ hh < 5 := by omega
    rw [← hhe]
    clear hhe
    go_upto_block 2 with fail
    go_cut [5] (fun p wx => ∃ (b g r : Nat) (xs : List Int), p = .pointer (some ⟨b, 0, none⟩) ∧ xs.length ≤ 2 * (t + 1) ∧ DI w wx b g rr r R xs xs)
    case first =>
      have hrl := HT.out.rf.lt
      have hsp := HT.out.sep
      by_cases h0 : hh = 0
      · subst h0
        clear hh5
        have HRL := Lib.hid (And.intro hrl hsp)
        have m1 : ¬ (ba = b ∨ ba = g) := by omega
        have m2 : ¬ ba = rr := by omega
        by_cases hl : xs.length < R
        · have hzz : True := trivial
          go_wp2_with fail
          have HL := Lib.hid hl
          clear hl
          go_region_held3 (fun w' => w'.cell? ⟨ba, o + t * 2 + 1, none⟩ = some (.int .i64 (X t))) (first | exact d1 | exact U3.cell_eq m1 d1 | exact U3.cell_eq m1 (by assumption) | exact (DI.up (w := w) HT4.out).cell_eq id CE.out.2)
            (first | (go_at_call 23; refine Calls.mono (put_is (X t) true (xs ++ [X t]) (by have := HXL.out; omega) (decide_eq_true HL.out) (if_pos HL.out) _ (FI.non (by ((with_reducible repeat' first | exact Upd.refl _ _ | apply Upd.drew | apply Upd.drewN | apply Upd.alloc | refine Upd.setCell ?_ ?_) <;> first | (intro _ _ h; exact h) | (intro _ _ h; exact h.elim) | (intro i h1 h2; exfalso; (try simp only at h2); omega) | (left; rfl) | (right; dsimp only; omega) | (right; omega))) HT.out.fi)) ?_; rintro e w3 ⟨rfl, ⟨g3, hg, hf⟩, U3⟩; have HT3 := Lib.hid ((HT.out.non (by ((with_reducible repeat' first | exact Upd.refl _ _ | apply Upd.drew | apply Upd.drewN | apply Upd.alloc | refine Upd.setCell ?_ ?_) <;> first | (intro _ _ h; exact h) | (intro _ _ h; exact h.elim) | (intro i h1 h2; exfalso; (try simp only at h2); omega) | (left; rfl) | (right; dsimp only; omega) | (right; omega)))).fifo U3 hf hg)) | (go_at_call 46; refine Calls.mono (rput_yes (X t) (by have := HXL.out; omega) HL.out _ (by have := HT3.out.up.size; exact this) (HT3.out.rf)) ?_; rintro e w4 ⟨rfl, ⟨r4, hr, hf4⟩, U4⟩; have HT4 := Lib.hid (HT3.out.push U4 hf4 hr)))
          go_wp2_with fail
          go_meet
          exact ⟨b, g3, r4, xs ++ [X t], rfl, by have := HXT.out; rw [List.length_append, List.length_singleton]; omega, HT4.out⟩
        · have HL := Lib.hid hl
          clear hl
          go_wp2_with fail
          go_region_held3 (fun w' => w'.cell? ⟨ba, o + t * 2 + 1, none⟩ = some (.int .i64 (X t))) (first | exact d1 | exact U3.cell_eq m1 d1 | exact U3.cell_eq m1 (by assumption) | exact (DI.up (w := w) HT4.out).cell_eq id CE.out.2)
            (first | (go_at_call 23; refine Calls.mono (put_is (X t) false xs (by have := HXL.out; omega) (decide_eq_false HL.out) (if_neg HL.out) _ (FI.non (by ((with_reducible repeat' first | exact Upd.refl _ _ | apply Upd.drew | apply Upd.drewN | apply Upd.alloc | refine Upd.setCell ?_ ?_) <;> first | (intro _ _ h; exact h) | (intro _ _ h; exact h.elim) | (intro i h1 h2; exfalso; (try simp only at h2); omega) | (left; rfl) | (right; dsimp only; omega) | (right; omega))) HT.out.fi)) ?_; rintro e w3 ⟨rfl, ⟨g3, hg, hf⟩, U3⟩; have HT3 := Lib.hid ((HT.out.non (by ((with_reducible repeat' first | exact Upd.refl _ _ | apply Upd.drew | apply Upd.drewN | apply Upd.alloc | refine Upd.setCell ?_ ?_) <;> first | (intro _ _ h; exact h) | (intro _ _ h; exact h.elim) | (intro i h1 h2; exfalso; (try simp only at h2); omega) | (left; rfl) | (right; dsimp only; omega) | (right; omega)))).fifo U3 hf hg)) | (go_at_call 46; refine Calls.mono (rput_no (X t) HL.out _ (HT3.out.rf)) ?_; rintro e w4 ⟨rfl, U4⟩; have HT4 := Lib.hid (HT3.out.non U4)))
          go_wp2_with fail
          go_meet
          exact ⟨b, g3, r, xs, rfl, by have := HXT.out; omega, HT4.out⟩
      by_cases h1 : hh = 1
      · subst h1
        clear hh5 h0
        have HRL := Lib.hid (And.intro hrl hsp)
        clear d0 d1
        have z1 : (headI xs != headI xs) = false := by simp
        have z2 : (someI xs != someI xs) = false := by simp
        go_wp2_with fail
        refine (take_any05 _ HT.out.fi).mono ?_
        rintro e w3 ⟨rfl, hF, U⟩
        have HT3 := Lib.hid (HT.out.fifo (U.mono (fun _ _ k => .inl k)) hF (.inl rfl))
        clear hF U
        cases xs with
        | nil =>
          rw [show headI ([] : List Int) = 0 from rfl, show someI ([] : List Int) = false from rfl]
          go_wp2_with fail
          refine (rtake_nil _ HT3.out.rf).mono ?_
          rintro e w4 ⟨rfl, rfl⟩
          go_wp2_with fail
          go_meet
          exact ⟨b, g, r, [], rfl, Nat.zero_le _, HT3.out⟩
        | cons x l =>
          go_wp2_with fail
          refine (rtake_any (by have := HXL.out; omega) _ HT3.out.rf).mono ?_
          rintro e w4 ⟨rfl, hF, U⟩
          have HT4 := Lib.hid (HT3.out.head U hF (.inl (by rcases HT3.out.row with ⟨_, k⟩ | k; cases k; exact k)))
          clear hF U
          go_wp2_with fail
          go_meet
          exact ⟨b, g, r, l, rfl, by have := HXT.out; rw [List.length_cons] at this; omega, HT4.out⟩
      by_cases h2 : hh = 2
      · subst h2
        clear hh5 h0 h1
        have HRL := Lib.hid (And.intro hrl hsp)
        clear d0 d1
        have z1 : ((xs.length : Int) != (xs.length : Int)) = false := by simp
        obtain ⟨v, hbk, ho, hne⟩ := HT.out.rf
        obtain ⟨A2, c2, rfl⟩ := ho.slice
        have c1 := hbk.cell 1 rfl
        have HBK := Lib.hid hbk
        have m3 : ¬ rr = b := by omega
        clear hbk ho hne
        go_wp2_with fail
        go_region_held3 (fun w' => w'.cell? ⟨rr, 1, none⟩ = some (.slice A2 xs.length c2)) (first | exact c1 | exact U3.cell_eq m3 c1 | exact U3.cell_eq m3 (by assumption))
          (first | (go_at_call 48; refine Calls.mono (clear_any _ (FI.non (by ((with_reducible repeat' first | exact Upd.refl _ _ | apply Upd.drew | apply Upd.drewN | apply Upd.alloc | refine Upd.setCell ?_ ?_) <;> first | (intro _ _ h; exact h) | (intro _ _ h; exact h.elim) | (intro i h1 h2; exfalso; (try simp only at h2); omega) | (left; rfl) | (right; dsimp only; omega) | (right; omega))) HT.out.fi)) ?_; rintro e w3 ⟨rfl, hf, U3⟩; have HT3 := Lib.hid ((HT.out.non (by ((with_reducible repeat' first | exact Upd.refl _ _ | apply Upd.drew | apply Upd.drewN | apply Upd.alloc | refine Upd.setCell ?_ ?_) <;> first | (intro _ _ h; exact h) | (intro _ _ h; exact h.elim) | (intro i h1 h2; exfalso; (try simp only at h2); omega) | (left; rfl) | (right; dsimp only; omega) | (right; omega)))).fifo (U3.mono (fun _ _ k => .inl k)) hf (.inl rfl))))
        have hbk3 := Blk.upd U3 (Blk.drew HBK.out) m3
        have c3 := hbk3.cell 1 rfl
        have f3 := hbk3.frozen 1
        have HB3 := Lib.hid hbk3
        clear hbk3 U3 c1
        rename_i hheld
        clear hheld
        go_wp2_with fail
        go_meet
        have hb4 := Blk.set (i := 1) (v := .slice none 0 0) HB3.out
        have hr4 := HT3.out.rf.lt
        refine ⟨b, g, r, [], rfl, Nat.zero_le _, HT3.out.head (W' := w3.setCell ⟨rr, 1, none⟩ (.slice none 0 0)) (by ((with_reducible repeat' first | exact Upd.refl _ _ | apply Upd.drew | apply Upd.drewN | apply Upd.alloc | refine Upd.setCell ?_ ?_) <;> first | (intro _ _ h; exact h) | (intro _ _ h; exact h.elim) | (intro i h1 h2; exfalso; (try simp only at h2); omega) | (left; rfl) | (right; dsimp only; omega) | (right; omega))) (RF.of_nil hb4 hr4.2.2.2 (by rw [World.size_setCell]; exact hr4.2.1) hr4.2.2.1) (.inr ⟨hb4, rfl⟩)⟩
      by_cases h3 : hh = 3
      · subst h3
        clear hh5 h0 h1 h2
        have HRL := Lib.hid (And.intro hrl hsp)
        have hfl := HT.out.fi.lt
        have hfg := HT.out.fi.glt
        clear d0 d1
        go_wp2_with fail
        refine (copy_any (by have := HXL.out; omega) _ HT.out.fi).mono ?_
        rintro e w3 ⟨rfl, ⟨gc, hgc, hC⟩, U⟩
        obtain ⟨c, hc⟩ : ∃ x, x = wr.heap.size := ⟨_, rfl⟩
        rw [← hc] at hC hgc ⊢
        have HC3 := Lib.hid hC
        have HT3 := Lib.hid (HT.out.non U)
        have hcl := hC.lt
        have hcg := hC.glt
        have hcb : b < c ∧ g < c ∧ rr < c ∧ r < c ∧ w.heap.size ≤ c := by have := HT.out.up.size; omega
        clear hC U hc hrl hfl hfg HT
        go_wp2_with fail
        refine (put_any05 1 (by have := HXL.out; omega) _ HT3.out.fi).mono ?_
        rintro e w4 ⟨rfl, ⟨g4, hg4, hF⟩, U⟩
        generalize (if xs.length < R then xs ++ [1] else xs) = l4 at hF
        have HT4 := Lib.hid (HT3.out.fifo U hF hg4)
        have HC4 := Lib.hid (HC3.out.upd U (by omega) (by omega))
        have hg5 : g4 ≠ c ∧ g4 ≠ gc := by omega
        have hz4 := U.size
        clear hF U hg4 HT3 HC3
        go_wp2_with fail
        refine (take_any05 _ HT4.out.fi).mono ?_
        rintro e w5 ⟨rfl, hF, U⟩
        have HT5 := Lib.hid (HT4.out.fifo (U.mono (fun _ _ k => .inl k)) hF (.inl rfl))
        have HC5 := Lib.hid (HC4.out.upd U (by omega) (by omega))
        have hz5 := U.size
        clear hF U HT4 HC4
        go_wp2_with fail
        refine (clear_any _ HT5.out.fi).mono ?_
        rintro e w6 ⟨rfl, hF, U⟩
        have HT6 := Lib.hid (HT5.out.fifo (U.mono (fun _ _ k => .inl k)) hF (.inl rfl))
        have HC6 := Lib.hid (HC5.out.upd U (by omega) (by omega))
        have hz6 := U.size
        have d1 := HT6.out.up.cell_eq id CE.out.2
        clear hF U HT5 HC5
        go_wp2_with fail
        refine (put_any05 (X t) (Nat.zero_le _) _ HT6.out.fi).mono ?_
        rintro e w7 ⟨rfl, ⟨g7, hg7, hF⟩, U⟩
        have HT7 := Lib.hid (HT6.out.fifo U hF hg7)
        have HC7 := Lib.hid (HC6.out.upd U (by omega) (by omega))
        clear hF U HT6 HC6 d1
        go_wp2_with fail
        go_meet
        have hT := HT7.out
        exact ⟨c, gc, r, xs, rfl, by have := HXT.out; omega, ⟨HC7.out, hT.rf, hT.up, by omega, .inr (by omega)⟩⟩
      have e0 : (hh == 0) = false := by simpa using h0
      have e1 : (hh == 1) = false := by simpa using h1
      have e2 : (hh == 2) = false := by simpa using h2
      have e3 : (hh == 3) = false := by simpa using h3
      clear h0 h1 h2 h3 hh5
      have HRL := Lib.hid (And.intro hrl hsp)
      have m1 : ¬ (ba = b ∨ ba = g) := by omega
      have m2 : ¬ ba = rr := by omega
      go_wp2_with fail
      by_cases hl1 : xs.length < R
      · have HL1 := Lib.hid hl1
        clear hl1
        by_cases hl2 : (xs ++ [X t]).length < R
        · have HL2 := Lib.hid hl2
          clear hl2
          go_region_held3 (fun w' => w'.cell? ⟨ba, o + t * 2 + 1, none⟩ = some (.int .i64 (X t))) (first | exact d1 | exact (DI.up (w := w) HT4.out).cell_eq id CE.out.2 | exact (DI.up (w := w) HT3.out).cell_eq id CE.out.2)
            (first | (go_at_call 23; (with_reducible refine Calls.mono (put_is (X t) true _ (by have := HXL.out; omega) (decide_eq_true HL1.out) (if_pos HL1.out) _ (FI.non (by ((with_reducible repeat' first | exact Upd.refl _ _ | apply Upd.drew | apply Upd.drewN | apply Upd.alloc | refine Upd.setCell ?_ ?_) <;> first | (intro _ _ h; exact h) | (intro _ _ h; exact h.elim) | (intro i h1 h2; exfalso; (try simp only at h2); omega) | (left; rfl) | (right; dsimp only; omega) | (right; omega))) HT.out.fi)) ?_); rintro e w3 ⟨rfl, ⟨g3, hg3, hf3⟩, U3⟩; have HT3 := Lib.hid (DI.fifo (HT.out.non (by ((with_reducible repeat' first | exact Upd.refl _ _ | apply Upd.drew | apply Upd.drewN | apply Upd.alloc | refine Upd.setCell ?_ ?_) <;> first | (intro _ _ h; exact h) | (intro _ _ h; exact h.elim) | (intro i h1 h2; exfalso; (try simp only at h2); omega) | (left; rfl) | (right; dsimp only; omega) | (right; omega)))) U3 hf3 hg3)) | (go_at_call 23; refine Calls.mono (put_is _ true _ (by have := HXL.out; rw [List.length_append, List.length_singleton]; omega) (decide_eq_true HL2.out) (if_pos HL2.out) _ HT3.out.fi) ?_; rintro e w4 ⟨rfl, ⟨g4, hg4, hf4⟩, U4⟩; have HT4 := Lib.hid (DI.fifo HT3.out U4 hf4 hg4)))
          have d2 := HT4.out.up.cell_eq id CE.out.2
          clear hg3 hf3 U3 hg4 hf4 U4 HT3 d1
          rename_i hh9
          clear hh9
          go_wp2_with fail
          go_region_held3 (fun w' => w'.cell? ⟨ba, o + t * 2 + 1, none⟩ = some (.int .i64 (X t))) (first | exact d2 | exact (DI.up (w := w) HT6.out).cell_eq id CE.out.2 | exact (DI.up (w := w) HT5.out).cell_eq id CE.out.2)
            (first | (go_at_call 46; (with_reducible refine Calls.mono (rput_yes (X t) (by have := HXL.out; omega) HL1.out _ ((HT4.out.non (by ((with_reducible repeat' first | exact Upd.refl _ _ | apply Upd.drew | apply Upd.drewN | apply Upd.alloc | refine Upd.setCell ?_ ?_) <;> first | (intro _ _ h; exact h) | (intro _ _ h; exact h.elim) | (intro i h1 h2; exfalso; (try simp only at h2); omega) | (left; rfl) | (right; dsimp only; omega) | (right; omega)))).up.size) (HT4.out.rf.non (by ((with_reducible repeat' first | exact Upd.refl _ _ | apply Upd.drew | apply Upd.drewN | apply Upd.alloc | refine Upd.setCell ?_ ?_) <;> first | (intro _ _ h; exact h) | (intro _ _ h; exact h.elim) | (intro i h1 h2; exfalso; (try simp only at h2); omega) | (left; rfl) | (right; dsimp only; omega) | (right; omega))))) ?_); rintro e w5 ⟨rfl, ⟨r5, hr, hf5⟩, U5⟩; have HT5 := Lib.hid (DI.push (HT4.out.non (by ((with_reducible repeat' first | exact Upd.refl _ _ | apply Upd.drew | apply Upd.drewN | apply Upd.alloc | refine Upd.setCell ?_ ?_) <;> first | (intro _ _ h; exact h) | (intro _ _ h; exact h.elim) | (intro i h1 h2; exfalso; (try simp only at h2); omega) | (left; rfl) | (right; dsimp only; omega) | (right; omega)))) U5 hf5 hr)) | (go_at_call 46; refine Calls.mono (rput_yes _ (by have := HXL.out; rw [List.length_append, List.length_singleton]; omega) HL2.out _ ((HT5.out.non (by ((with_reducible repeat' first | exact Upd.refl _ _ | apply Upd.drew | apply Upd.drewN | apply Upd.alloc | refine Upd.setCell ?_ ?_) <;> first | (intro _ _ h; exact h) | (intro _ _ h; exact h.elim) | (intro i h1 h2; exfalso; (try simp only at h2); omega) | (left; rfl) | (right; dsimp only; omega) | (right; omega)))).up.size) (HT5.out.rf.non (by ((with_reducible repeat' first | exact Upd.refl _ _ | apply Upd.drew | apply Upd.drewN | apply Upd.alloc | refine Upd.setCell ?_ ?_) <;> first | (intro _ _ h; exact h) | (intro _ _ h; exact h.elim) | (intro i h1 h2; exfalso; (try simp only at h2); omega) | (left; rfl) | (right; dsimp only; omega) | (right; omega))))) ?_; rintro e w6 ⟨rfl, ⟨r6, hr, hf6⟩, U6⟩; have HT6 := Lib.hid (DI.push (HT5.out.non (by ((with_reducible repeat' first | exact Upd.refl _ _ | apply Upd.drew | apply Upd.drewN | apply Upd.alloc | refine Upd.setCell ?_ ?_) <;> first | (intro _ _ h; exact h) | (intro _ _ h; exact h.elim) | (intro i h1 h2; exfalso; (try simp only at h2); omega) | (left; rfl) | (right; dsimp only; omega) | (right; omega)))) U6 hf6 hr)))
          go_wp2_with fail
          go_meet
          exact ⟨b, g4, _, _, rfl, by have := HXT.out; (try simp only [List.length_append, List.length_singleton]); omega, HT6.out⟩
        · have HL2 := Lib.hid hl2
          clear hl2
          go_region_held3 (fun w' => w'.cell? ⟨ba, o + t * 2 + 1, none⟩ = some (.int .i64 (X t))) (first | exact d1 | exact (DI.up (w := w) HT4.out).cell_eq id CE.out.2 | exact (DI.up (w := w) HT3.out).cell_eq id CE.out.2)
            (first | (go_at_call 23; (with_reducible refine Calls.mono (put_is (X t) true _ (by have := HXL.out; omega) (decide_eq_true HL1.out) (if_pos HL1.out) _ (FI.non (by ((with_reducible repeat' first | exact Upd.refl _ _ | apply Upd.drew | apply Upd.drewN | apply Upd.alloc | refine Upd.setCell ?_ ?_) <;> first | (intro _ _ h; exact h) | (intro _ _ h; exact h.elim) | (intro i h1 h2; exfalso; (try simp only at h2); omega) | (left; rfl) | (right; dsimp only; omega) | (right; omega))) HT.out.fi)) ?_); rintro e w3 ⟨rfl, ⟨g3, hg3, hf3⟩, U3⟩; have HT3 := Lib.hid (DI.fifo (HT.out.non (by ((with_reducible repeat' first | exact Upd.refl _ _ | apply Upd.drew | apply Upd.drewN | apply Upd.alloc | refine Upd.setCell ?_ ?_) <;> first | (intro _ _ h; exact h) | (intro _ _ h; exact h.elim) | (intro i h1 h2; exfalso; (try simp only at h2); omega) | (left; rfl) | (right; dsimp only; omega) | (right; omega)))) U3 hf3 hg3)) | (go_at_call 23; refine Calls.mono (put_is _ false _ (by have := HXL.out; rw [List.length_append, List.length_singleton]; omega) (decide_eq_false HL2.out) (if_neg HL2.out) _ HT3.out.fi) ?_; rintro e w4 ⟨rfl, ⟨g4, hg4, hf4⟩, U4⟩; have HT4 := Lib.hid (DI.fifo HT3.out U4 hf4 hg4)))
          have d2 := HT4.out.up.cell_eq id CE.out.2
          clear hg3 hf3 U3 hg4 hf4 U4 HT3 d1
          rename_i hh9
          clear hh9
          go_wp2_with fail
          go_region_held3 (fun w' => w'.cell? ⟨ba, o + t * 2 + 1, none⟩ = some (.int .i64 (X t))) (first | exact d2 | exact (DI.up (w := w) HT6.out).cell_eq id CE.out.2 | exact (DI.up (w := w) HT5.out).cell_eq id CE.out.2)
            (first | (go_at_call 46; (with_reducible refine Calls.mono (rput_yes (X t) (by have := HXL.out; omega) HL1.out _ ((HT4.out.non (by ((with_reducible repeat' first | exact Upd.refl _ _ | apply Upd.drew | apply Upd.drewN | apply Upd.alloc | refine Upd.setCell ?_ ?_) <;> first | (intro _ _ h; exact h) | (intro _ _ h; exact h.elim) | (intro i h1 h2; exfalso; (try simp only at h2); omega) | (left; rfl) | (right; dsimp only; omega) | (right; omega)))).up.size) (HT4.out.rf.non (by ((with_reducible repeat' first | exact Upd.refl _ _ | apply Upd.drew | apply Upd.drewN | apply Upd.alloc | refine Upd.setCell ?_ ?_) <;> first | (intro _ _ h; exact h) | (intro _ _ h; exact h.elim) | (intro i h1 h2; exfalso; (try simp only at h2); omega) | (left; rfl) | (right; dsimp only; omega) | (right; omega))))) ?_); rintro e w5 ⟨rfl, ⟨r5, hr, hf5⟩, U5⟩; have HT5 := Lib.hid (DI.push (HT4.out.non (by ((with_reducible repeat' first | exact Upd.refl _ _ | apply Upd.drew | apply Upd.drewN | apply Upd.alloc | refine Upd.setCell ?_ ?_) <;> first | (intro _ _ h; exact h) | (intro _ _ h; exact h.elim) | (intro i h1 h2; exfalso; (try simp only at h2); omega) | (left; rfl) | (right; dsimp only; omega) | (right; omega)))) U5 hf5 hr)) | (go_at_call 46; refine Calls.mono (rput_no _ HL2.out _ (HT5.out.rf.non (by ((with_reducible repeat' first | exact Upd.refl _ _ | apply Upd.drew | apply Upd.drewN | apply Upd.alloc | refine Upd.setCell ?_ ?_) <;> first | (intro _ _ h; exact h) | (intro _ _ h; exact h.elim) | (intro i h1 h2; exfalso; (try simp only at h2); omega) | (left; rfl) | (right; dsimp only; omega) | (right; omega))))) ?_; rintro e w6 ⟨rfl, U6⟩; have HT6 := Lib.hid ((HT5.out.non (by ((with_reducible repeat' first | exact Upd.refl _ _ | apply Upd.drew | apply Upd.drewN | apply Upd.alloc | refine Upd.setCell ?_ ?_) <;> first | (intro _ _ h; exact h) | (intro _ _ h; exact h.elim) | (intro i h1 h2; exfalso; (try simp only at h2); omega) | (left; rfl) | (right; dsimp only; omega) | (right; omega)))).non U6)))
          go_wp2_with fail
          go_meet
          exact ⟨b, g4, _, _, rfl, by have := HXT.out; (try simp only [List.length_append, List.length_singleton]); omega, HT6.out⟩
      · have HL1 := Lib.hid hl1
        have HL2 := Lib.hid hl1
        clear hl1
        go_region_held3 (fun w' => w'.cell? ⟨ba, o + t * 2 + 1, none⟩ = some (.int .i64 (X t))) (first | exact d1 | exact (DI.up (w := w) HT4.out).cell_eq id CE.out.2 | exact (DI.up (w := w) HT3.out).cell_eq id CE.out.2)
          (first | (go_at_call 23; (with_reducible refine Calls.mono (put_is (X t) false _ (by have := HXL.out; omega) (decide_eq_false HL1.out) (if_neg HL1.out) _ (FI.non (by ((with_reducible repeat' first | exact Upd.refl _ _ | apply Upd.drew | apply Upd.drewN | apply Upd.alloc | refine Upd.setCell ?_ ?_) <;> first | (intro _ _ h; exact h) | (intro _ _ h; exact h.elim) | (intro i h1 h2; exfalso; (try simp only at h2); omega) | (left; rfl) | (right; dsimp only; omega) | (right; omega))) HT.out.fi)) ?_); rintro e w3 ⟨rfl, ⟨g3, hg3, hf3⟩, U3⟩; have HT3 := Lib.hid (DI.fifo (HT.out.non (by ((with_reducible repeat' first | exact Upd.refl _ _ | apply Upd.drew | apply Upd.drewN | apply Upd.alloc | refine Upd.setCell ?_ ?_) <;> first | (intro _ _ h; exact h) | (intro _ _ h; exact h.elim) | (intro i h1 h2; exfalso; (try simp only at h2); omega) | (left; rfl) | (right; dsimp only; omega) | (right; omega)))) U3 hf3 hg3)) | (go_at_call 23; refine Calls.mono (put_is _ false _ (by have := HXL.out; omega) (decide_eq_false HL2.out) (if_neg HL2.out) _ HT3.out.fi) ?_; rintro e w4 ⟨rfl, ⟨g4, hg4, hf4⟩, U4⟩; have HT4 := Lib.hid (DI.fifo HT3.out U4 hf4 hg4)))
        have d2 := HT4.out.up.cell_eq id CE.out.2
        clear hg3 hf3 U3 hg4 hf4 U4 HT3 d1
        rename_i hh9
        clear hh9
        go_wp2_with fail
        go_region_held3 (fun w' => w'.cell? ⟨ba, o + t * 2 + 1, none⟩ = some (.int .i64 (X t))) (first | exact d2 | exact (DI.up (w := w) HT6.out).cell_eq id CE.out.2 | exact (DI.up (w := w) HT5.out).cell_eq id CE.out.2)
          (first | (go_at_call 46; (with_reducible refine Calls.mono (rput_no (X t) HL1.out _ (HT4.out.rf.non (by ((with_reducible repeat' first | exact Upd.refl _ _ | apply Upd.drew | apply Upd.drewN | apply Upd.alloc | refine Upd.setCell ?_ ?_) <;> first | (intro _ _ h; exact h) | (intro _ _ h; exact h.elim) | (intro i h1 h2; exfalso; (try simp only at h2); omega) | (left; rfl) | (right; dsimp only; omega) | (right; omega))))) ?_); rintro e w5 ⟨rfl, U5⟩; have HT5 := Lib.hid ((HT4.out.non (by ((with_reducible repeat' first | exact Upd.refl _ _ | apply Upd.drew | apply Upd.drewN | apply Upd.alloc | refine Upd.setCell ?_ ?_) <;> first | (intro _ _ h; exact h) | (intro _ _ h; exact h.elim) | (intro i h1 h2; exfalso; (try simp only at h2); omega) | (left; rfl) | (right; dsimp only; omega) | (right; omega)))).non U5)) | (go_at_call 46; refine Calls.mono (rput_no _ HL2.out _ (HT5.out.rf.non (by ((with_reducible repeat' first | exact Upd.refl _ _ | apply Upd.drew | apply Upd.drewN | apply Upd.alloc | refine Upd.setCell ?_ ?_) <;> first | (intro _ _ h; exact h) | (intro _ _ h; exact h.elim) | (intro i h1 h2; exfalso; (try simp only at h2); omega) | (left; rfl) | (right; dsimp only; omega) | (right; omega))))) ?_; rintro e w6 ⟨rfl, U6⟩; have HT6 := Lib.hid ((HT5.out.non (by ((with_reducible repeat' first | exact Upd.refl _ _ | apply Upd.drew | apply Upd.drewN | apply Upd.alloc | refine Upd.setCell ?_ ?_) <;> first | (intro _ _ h; exact h) | (intro _ _ h; exact h.elim) | (intro i h1 h2; exfalso; (try simp only at h2); omega) | (left; rfl) | (right; dsimp only; omega) | (right; omega)))).non U6)))
        go_wp2_with fail
        go_meet
        exact ⟨b, g4, _, _, rfl, by have := HXT.out; (try simp only [List.length_append, List.length_singleton]); omega, HT6.out⟩
    case rest =>
      obtain ⟨b2, g2, r2, xs2, rfl, hxl, hT⟩ := hcut
      have HT2 := Lib.hid hT
      have HXL2 := Lib.hid hxl
      clear hT hxl HT HXL HXT d0 d1 hh5
      go_wp2_with fail
      refine (same05 (by have := HXL2.out; omega) _ HT2.out.fi HT2.out.rf).mono ?_
      rintro e w4 ⟨rfl, U⟩
      have HT4 := Lib.hid (HT2.out.non U)
      clear U HT2
      go_wp2_with fail
      go_roundw
      case rel => exact ⟨t + 1, b2, g2, r2, xs2, by omega, rfl, by go_num, HXL2.out, HT4.out⟩
      case measure => simp [intOf]; omega

theorem doesF_law (v : Int) (hv : v ≤ 9223372036854775807) (A : Option Addr) (N cc : Nat) (H X : Nat → Int) (w : World)
    (hd : 0 < N → ∃ b o, A = some ⟨b, o, none⟩ ∧ ∀ j, j < N → w.cell? ⟨b, o + j * 2, none⟩ = some (.int .i64 (H j)) ∧ w.cell? ⟨b, o + j * 2 + 1, none⟩ = some (.int .i64 (X j))) :
    Calls Try.prog 11 #[.int .i64 v, .slice A N cc] w fun e w' => e = .returned (.bool true) ∧ Upd Non w w' := by
  by_cases h : 300 < N
  · exact doesF_long v A N cc h w
  · by_cases h2 : v < 0
    · exact doesF_neg v A N cc h h2 w
    · obtain ⟨R, rfl⟩ := Int.eq_ofNat_of_zero_le (show 0 ≤ v by omega)
      exact doesF_some R (by unfold maxI; omega) A N cc H X (by omega) w hd
end Go.Proofs.Ytmblplhehbdocaa
