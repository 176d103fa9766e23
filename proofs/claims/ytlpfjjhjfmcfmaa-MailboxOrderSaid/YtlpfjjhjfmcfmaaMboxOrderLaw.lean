/- MailboxOrder: the law's walk. Conditions: the rows' cells are words, truths. -/
import Derived.Test.YtlpfjjhjfmcfmaaMboxOX
namespace Go.Proofs.Ytlpfjjhjfmcfmaa
open Go.RowKit
theorem rd0 (s : MS) : s.rd 0 = headI s.xs ∧ s.rdS 0 = s.tk := ⟨rfl, rfl⟩
theorem rd1 (s : MS) : s.rd 1 = s.xs.length := rfl
theorem rd3 (s : MS) : s.rd 3 = s.lost := rfl
theorem wr0_room (s : MS) (v : Int) (h : s.xs.length < 4) : s.wr 0 v = { s with xs := s.xs ++ [v] } := by show s.pu v = _; unfold MS.pu; rw [if_pos h]
theorem wr0_full (s : MS) (v : Int) (h : ¬ s.xs.length < 4) (hl : s.lost < 4294967295) : s.wr 0 v = { s with lost := s.lost + 1 } := by show s.pu v = _; unfold MS.pu; rw [if_neg h, if_pos hl]
set_option maxRecDepth 100000 in
set_option maxHeartbeats 16000000 in
theorem order_m (A : Option Addr) (n cc : Nat) (X : Nat → Int) (T : Option Addr) (m tc : Nat) (V : Nat → Bool) (w : World) (hd : WordsAt w A n X) (ht : 0 < m → ∃ b o, T = some ⟨b, o, none⟩ ∧ ∀ j, j < m → w.cell? ⟨b, o + j, none⟩ = some (.bool (V j))) :
    Calls Try.prog 5 #[.slice A n cc, .slice T m tc] w fun e w' => e = .returned (.bool true) ∧ Upd Non w w' := by
  have HD := Lib.hid hd
  have HT := Lib.hid ht
  clear hd ht
  go_enter Try.func5, Try.ntmps5
  go_wp2_with fail
  refine (awake_m w).mono ?_
  rintro e w1 ⟨rfl, hU⟩
  have HU1 := Lib.hid hU
  clear hU
  by_cases hn : n ≤ 300
  case neg =>
    have k1 : (300 : Int) < n := by omega
    go_wp2_with fail
    go_ret
    exact ⟨rfl, HU1.out⟩
  have k1 : ¬ (300 : Int) < n := by omega
  go_wp2_with fail
  refine (new_m w1).mono ?_
  rintro e w2 ⟨b, f, g, rfl, h⟩
  have H2 := Lib.hid (h.base HU1.out)
  clear h HU1 k1
  go_wp2_with fail
  refine (write_m 2 3 (by decide) (by decide) _ H2.out.m).mono ?_
  rintro e w3 ⟨rfl, hW⟩
  obtain ⟨g3, _, h3⟩ := H2.out.mw hW
  have HX := Lib.hid (show OX w w3 b f g3 ⟨[], 1, 0⟩ (.slice none 0 0) [] (.slice none 0 0) [] from ⟨h3, wrow_nil _ _, wrow_nil _ _, (fun k hk => by cases hk), (fun k hk => by cases hk), fun k hk => by cases hk⟩)
  clear h3 hW H2
  go_wp2_with fail
  go_loopw [6, 7, 8, 9, 10, 11] (fun pv gv lv iv _ _ wr => ∃ (t : Nat) (P G : List Int) (s : MS) (g : Nat), t ≤ n ∧ iv = .int .i64 t ∧ lv = .int .u32 s.lost ∧ P = G ++ s.xs ∧ P.length ≤ t ∧ s.ctrl = 1 ∧ s.lost ≤ t ∧ OX w wr b f g s pv P gv G) (fun _ _ _ iv _ _ _ => n - (intOf iv).toNat)
  case atStart => exact ⟨0, [], [], _, g3, Nat.zero_le _, rfl, rfl, rfl, Nat.le_refl _, rfl, Int.le_refl _, HX.out⟩
  case round =>
    clear HX
    obtain ⟨t, P, G, s, g, ht, rfl, rfl, hP, hPl, hc, hlo, h⟩ := hrel
    have HX := Lib.hid h
    have HP := Lib.hid hP
    have HC := Lib.hid (And.intro hPl (And.intro hc hlo))
    obtain ⟨A6, c6, rfl⟩ := own_slice h.p
    obtain ⟨A7, c7, rfl⟩ := own_slice h.q
    clear h hP hc
    by_cases hlt : t < n
    case pos =>
      have k1 : (t : Int) < n := by omega
      go_upto_region 12 with fail
      go_cut [36] (fun tv wx => ∃ d : Bool, tv = .bool d ∧ wx = wr)
      case first =>
        by_cases h1 : t < m
        · have k2 : (t : Int) < m := by omega
          obtain ⟨bt, ot, rfl, hc⟩ := HT.out (by omega)
          have c0 := HX.out.x.up.cell_eq id (hc t h1)
          clear hc
          go_wp2_with fail
          go_meet
          exact ⟨_, rfl, rfl⟩
        · have k2 : ¬ (t : Int) < m := by omega
          go_wp2_with fail
          go_meet
          exact ⟨_, rfl, rfl⟩
      case rest =>
        obtain ⟨d, rfl, rfl⟩ := hcut
        go_upto_if 36 with fail
        go_cut [7] (fun gv wx => ∃ (G : List Int) (s' : MS) (g : Nat), P = G ++ s'.xs ∧ s'.ctrl = 1 ∧ s'.lost = s.lost ∧ OX w wx b f g s' (.slice A6 P.length c6) P gv G)
        case first =>
          cases d
          · go_wp2_with fail
            go_meet
            exact ⟨G, s, g, HP.out, HC.out.2.1, rfl, HX.out⟩
          go_wp2_with fail
          refine (read_m 1 _ HX.out.x.m).mono ?_
          rintro e w4 ⟨rfl, _, hu⟩
          have HX4 := Lib.hid (HX.out.non (hu (by decide)))
          rw [rd1]
          have hxs : (s.xs = [] ∧ s.xs.length = 0) ∨ ∃ y l, s.xs = y :: l := by
            cases h : s.xs with
            | nil => exact .inl ⟨rfl, rfl⟩
            | cons y l => exact .inr ⟨y, l, rfl⟩
          clear hu HX
          rcases hxs with ⟨hx, hl⟩ | ⟨y, l, hx⟩
          · have HE := Lib.hid hx
            have hg : P.length = G.length := by rw [HP.out, hx, List.append_nil]
            have hg2 : ¬ G.length < P.length := by omega
            have hg3 : ¬ (G.length : Int) < P.length := by omega
            rw [hl]
            clear hx hl hg
            go_wp2_with fail
            refine (read_m 0 _ HX4.out.x.m).mono ?_
            rintro e w5 ⟨rfl, hW, _⟩
            obtain ⟨g5, h5⟩ := HX4.out.mw hW
            have HX5 := Lib.hid h5
            rw [(rd0 s).1, show headI s.xs = 0 by rw [HE.out]; rfl]
            clear hW h5 HX4
            go_wp2_with fail
            go_meet
            exact ⟨G, s.tk, g5, by rw [HP.out]; show G ++ s.xs = G ++ s.xs.tail; rw [HE.out]; rfl, HC.out.2.1, rfl, HX5.out⟩
          · have HE := Lib.hid hx
            have hg : P.length = G.length + (l.length + 1) := by rw [HP.out, hx, List.length_append, List.length_cons]
            have hl : s.xs.length = l.length + 1 := by rw [hx, List.length_cons]
            obtain ⟨q, hq⟩ : ∃ q, q = s.xs.length := ⟨_, rfl⟩
            rw [← hq] at hl ⊢
            have hg2 : G.length < P.length := by omega
            have hg3 : (G.length : Int) < P.length := by omega
            have hq2 : (0 : Int) < q := by omega
            have hq3 : 0 < q := by omega
            have HG := Lib.hid (show G.length ≤ 300 by have := HC.out.1; omega)
            clear hx hl hg hq
            go_wp2_with fail
            refine (read_m 0 _ HX4.out.x.m).mono ?_
            rintro e w5 ⟨rfl, hW, _⟩
            obtain ⟨g5, h5⟩ := HX4.out.mw hW
            have HX5 := Lib.hid h5
            have hz5 := h5.x.up.size
            rw [(rd0 s).1, show headI s.xs = y by rw [HE.out]; rfl]
            clear hW h5 HX4
            go_wp2_with (at_builtin; refine wpList_gappend rfl _ _ 35 rfl 28 _ 1 4 Try.underlying35 Try.info28w rfl (by decide) rfl (HX5.out.non (by ((with_reducible repeat' first | exact Upd.refl _ _ | apply Upd.drew | apply Upd.drewN | apply Upd.alloc | refine Upd.setCell ?_ ?_) <;> first | (intro _ _ h; exact h) | (intro _ _ h; exact h.elim) | (intro i h1 h2; exfalso; (try simp only at h2); omega) | (left; rfl) | (right; dsimp only; omega) | (right; omega)))).q w5.heap.size #[.int .u32 y] 28 rfl (Blk.new _ _ _) rfl rfl (by have := HG.out; omega) (by have := HG.out; omega) (by rw [World.size_alloc]; omega) ?_; intro v' w6 hv hgr hbb)
            have HX6 := Lib.hid (OX.got (HX5.out.non (by ((with_reducible repeat' first | exact Upd.refl _ _ | apply Upd.drew | apply Upd.drewN | apply Upd.alloc | refine Upd.setCell ?_ ?_) <;> first | (intro _ _ h; exact h) | (intro _ _ h; exact h.elim) | (intro i h1 h2; exfalso; (try simp only at h2); omega) | (left; rfl) | (right; dsimp only; omega) | (right; omega)) : Upd Non w5 (w5.alloc (.cells #[.int .u32 y] 28)))) (y := y) (v' := v') (by show w6.ownsRow _ 28 1 v' (G ++ [y]).length ((G ++ [y]).map _); rw [List.length_append, List.map_append]; exact hv) hgr hbb)
            clear hv hgr hbb HX5
            go_wp2_with fail
            go_meet
            exact ⟨G ++ [y], s.tk, g5, by rw [HP.out]; show G ++ s.xs = G ++ [y] ++ s.xs.tail; rw [HE.out]; simp, HC.out.2.1, rfl, HX6.out⟩
        case rest =>
          have hPl := HC.out.1
          have hlo := HC.out.2.2
          clear HX HC HP
          obtain ⟨G, s1, g1, hP, hc, hl1, h⟩ := hcut
          have HX := Lib.hid h
          have HP := Lib.hid hP
          have HC := Lib.hid hc
          obtain ⟨A7, c7, rfl⟩ := own_slice h.q
          rw [← hl1] at hlo ⊢
          have hx4 := h.x.m.le
          have hl0 := h.x.m.ok.l0
          obtain ⟨ba, o, rfl, hcell⟩ := HD.out.1 (by omega)
          have hX0 := hcell t hlt
          have HXX := Lib.hid hX0
          have HR := Lib.hid (HD.out.2 t hlt)
          clear h hP hc hl1 hcell
          go_wp2_with fail
          refine (read_m 1 _ HX.out.x.m).mono ?_
          rintro e w4 ⟨rfl, _, hu⟩
          have HX4 := Lib.hid (HX.out.non (hu (by decide)))
          rw [rd1]
          obtain ⟨q, hq⟩ : ∃ q, q = s1.xs.length := ⟨_, rfl⟩
          have HQ := Lib.hid hq
          rw [← hq]
          have HPG := Lib.hid (show P.length = G.length + q by rw [HP.out, List.length_append, ← hq])
          have c0 := HX4.out.x.up.cell_eq id hX0
          clear hu hX0 HX hq
          by_cases hq4 : q < 4
          · have k2 : (q : Int) < 4 := by omega
            have hz4 := HX4.out.x.up.size
            go_upto_region 22 with (at_builtin; refine wpList_gappend rfl _ _ 35 rfl 28 _ 1 4 Try.underlying35 Try.info28w rfl (by decide) rfl (HX4.out.non (by ((with_reducible repeat' first | exact Upd.refl _ _ | apply Upd.drew | apply Upd.drewN | apply Upd.alloc | refine Upd.setCell ?_ ?_) <;> first | (intro _ _ h; exact h) | (intro _ _ h; exact h.elim) | (intro i h1 h2; exfalso; (try simp only at h2); omega) | (left; rfl) | (right; dsimp only; omega) | (right; omega)))).p w4.heap.size #[.int .u32 (X t)] 28 rfl (Blk.new _ _ _) rfl rfl (by omega) (by omega) (by rw [World.size_alloc]; omega) ?_; intro v' w6 hv hgr hbb)
            have HX6 := Lib.hid (OX.put (HX4.out.non (by ((with_reducible repeat' first | exact Upd.refl _ _ | apply Upd.drew | apply Upd.drewN | apply Upd.alloc | refine Upd.setCell ?_ ?_) <;> first | (intro _ _ h; exact h) | (intro _ _ h; exact h.elim) | (intro i h1 h2; exfalso; (try simp only at h2); omega) | (left; rfl) | (right; dsimp only; omega) | (right; omega)) : Upd Non w4 (w4.alloc (.cells #[.int .u32 (X t)] 28)))) (y := X t) (v' := v') (by show w6.ownsRow _ 28 1 v' (P ++ [X t]).length ((P ++ [X t]).map _); rw [List.length_append, List.map_append]; exact hv) hgr hbb)
            obtain ⟨A6', c6', rfl⟩ := own_slice hv
            have c0 := HX6.out.x.up.cell_eq id HXX.out
            clear hv hgr hbb HX4
            go_wp2_with fail
            refine (write_m 0 (X t) HR.out.1 HR.out.2 _ HX6.out.x.m).mono ?_
            rintro e w7 ⟨rfl, hW⟩
            rw [wr0_room _ _ (by rw [← HQ.out]; exact hq4)] at hW
            obtain ⟨g7, h7⟩ := HX6.out.mw hW
            have HX7 := Lib.hid h7
            clear hW h7 HX6 c0
            go_wp2_with fail
            refine (read_m 3 _ HX7.out.x.m).mono ?_
            rintro e w8 ⟨rfl, _, hu⟩
            have HX8 := Lib.hid (HX7.out.non (hu (by decide)))
            rw [rd3, show MS.lost { s1 with xs := s1.xs ++ [X t] } = s1.lost from rfl]
            have e1 : (s1.lost != s1.lost) = false := by simp
            clear hu HX7
            go_wp2_with fail
            refine (read_m 1 _ HX8.out.x.m).mono ?_
            rintro e w9 ⟨rfl, _, hu⟩
            have HX9 := Lib.hid (HX8.out.non (hu (by decide)))
            rw [rd1, show (MS.xs { s1 with xs := s1.xs ++ [X t] }).length = q + 1 by rw [HQ.out]; exact List.length_append]
            clear hu HX8
            have e2 : IntKind.i64.wrap ((P.length : Int) + 1 - G.length) = (q : Int) + 1 := by have := HPG.out; rw [IntWalk.i64_in _ (by omega)]; omega
            go_wp2_with fail
            refine (line_m _ HX9.out.x.m).mono ?_
            rintro e w10 ⟨rfl, rfl⟩
            rw [show (decide ((MS.ctrl { s1 with xs := s1.xs ++ [X t] }) = 1) && decide (0 < (MS.xs { s1 with xs := s1.xs ++ [X t] }).length)) = true by simp [HC.out]]
            have g2 : G.length < P.length + 1 := by have := HPG.out; omega
            have g3 : (G.length : Int) < (P.length : Int) + 1 := by omega
            go_wp2_with fail
            exact ⟨⟨t + 1, P ++ [X t], G, { s1 with xs := s1.xs ++ [X t] }, g7, by omega, by go_num, rfl, by rw [HP.out]; simp, by rw [List.length_append, List.length_singleton]; omega, HC.out, by show s1.lost ≤ _; omega, HX9.out⟩, by simp only [intOf]; omega⟩
          · have k2 : ¬ (q : Int) < 4 := by omega
            have k3 : IntKind.u32.wrap (s1.lost + 1) = s1.lost + 1 := by rw [IntKind.wrap_u32]; omega
            go_upto_region 22 with fail
            go_wp2_with fail
            refine (write_m 0 (X t) HR.out.1 HR.out.2 _ HX4.out.x.m).mono ?_
            rintro e w7 ⟨rfl, hW⟩
            rw [wr0_full _ _ (by rw [← HQ.out]; exact hq4) (by omega)] at hW
            obtain ⟨g7, h7⟩ := HX4.out.mw hW
            have HX7 := Lib.hid h7
            clear hW h7 HX4 c0
            go_wp2_with fail
            refine (read_m 3 _ HX7.out.x.m).mono ?_
            rintro e w8 ⟨rfl, _, hu⟩
            have HX8 := Lib.hid (HX7.out.non (hu (by decide)))
            rw [rd3, show MS.lost { s1 with lost := s1.lost + 1 } = s1.lost + 1 from rfl]
            have e1 : (s1.lost + 1 != s1.lost + 1) = false := by simp
            clear hu HX7
            go_wp2_with fail
            refine (read_m 1 _ HX8.out.x.m).mono ?_
            rintro e w9 ⟨rfl, _, hu⟩
            have HX9 := Lib.hid (HX8.out.non (hu (by decide)))
            rw [rd1, show (MS.xs { s1 with lost := s1.lost + 1 }).length = q by rw [HQ.out]]
            clear hu HX8
            have e2 : IntKind.i64.wrap ((P.length : Int) - G.length) = (q : Int) := by have := HPG.out; rw [IntWalk.i64_in _ (by omega)]; omega
            have e3 : ((q : Int) != (q : Int)) = false := by simp
            have e4 : wrap64 (q : Int) = (q : Int) := IntWalk.wrap64_in _ (by have := HQ.out; omega)
            go_wp2_with fail
            refine (line_m _ HX9.out.x.m).mono ?_
            rintro e w10 ⟨rfl, rfl⟩
            rw [show (decide ((MS.ctrl { s1 with lost := s1.lost + 1 }) = 1) && decide (0 < (MS.xs { s1 with lost := s1.lost + 1 }).length)) = true by have := HQ.out; simp [HC.out]; omega]
            have g2 : G.length < P.length := by have := HPG.out; omega
            have g3 : (G.length : Int) < (P.length : Int) := by omega
            go_wp2_with fail
            exact ⟨⟨t + 1, P, G, { s1 with lost := s1.lost + 1 }, g7, by omega, by go_num, rfl, HP.out, by omega, HC.out, by show s1.lost + 1 ≤ _; omega, HX9.out⟩, by simp only [intOf]; omega⟩
    have k1 : ¬ (t : Int) < n := by omega
    go_wp2_with fail
    refine (state_m _ HX.out.x.m).mono ?_
    rintro e w4 ⟨v4, r4, rfl, hi, hU⟩
    obtain ⟨A4, k4, rfl⟩ := hi.slice
    have HX4 := Lib.hid (HX.out.non hU)
    have HI4 := Lib.hid hi
    have hs4 := HX.out.x.m.le
    clear hU hi HX
    go_upto_region 26 with fail
    obtain ⟨w5, hw5⟩ : ∃ x, x = w4.alloc (.cells #[.slice A4 s.xs.length k4, .int .u32 s.ctrl, .int .u32 s.lost] 39) := ⟨_, rfl⟩
    obtain ⟨b5, hb5⟩ : ∃ x, x = w4.heap.size := ⟨_, rfl⟩
    have hk5 : Blk w5 b5 #[.slice A4 s.xs.length k4, .int .u32 s.ctrl, .int .u32 s.lost] 39 := by rw [hw5]; exact Blk.newAt hb5
    have hu5 : Upd Non w4 w5 := by rw [hw5]; ((with_reducible repeat' first | exact Upd.refl _ _ | apply Upd.drew | apply Upd.drewN | apply Upd.alloc | refine Upd.setCell ?_ ?_) <;> first | (intro _ _ h; exact h) | (intro _ _ h; exact h.elim) | (intro i h1 h2; exfalso; (try simp only at h2); omega) | (left; rfl) | (right; dsimp only; omega) | (right; omega))
    have HX5 := Lib.hid (HX4.out.non hu5)
    have HI5 := Lib.hid (HI4.out.non hu5)
    have HK5 := Lib.hid hk5
    have x0 := hk5.cell 0 rfl
    rw [← hw5, ← hb5]
    clear hw5 hb5 hk5 hu5 HX4 HI4
    obtain ⟨v6, w6, hrun, hrow, hgr⟩ := wrow_app (c := k4) HX5.out.q (fun hp => by obtain ⟨b, o, e, _, h⟩ := HI5.out.at hp; exact ⟨b, o, e, h⟩) (fun e => by
      subst e
      rcases HI5.out.own.2 with ⟨h, h0⟩ | ⟨_, _, _, h, _⟩
      · exact List.eq_nil_of_length_eq_zero h0
      · cases h) (by have := HP.out; have := HC.out.1; have h2 := congrArg List.length (HP.out); rw [List.length_append] at h2; omega) HX5.out.x.up.size
    have HRUN := Lib.hid hrun
    have uu : Upd (fun i => (Value.slice A7 G.length c7).ownBlock = some i) w5 w6 := Upd.grown hgr (Upd.refl _ _) (fun r hr => .inl hr)
    have HU6 := Lib.hid (show Upd Non w w6 from Upd.call uu HX5.out.x.up (fun i hi e => by have := (own_block HX5.out.q i e).1; omega))
    have HP6 := Lib.hid (own_grown hgr HX5.out.p (fun k hk e => HX5.out.pq k hk e))
    have x0' : w6.cell? ⟨b5, 0, none⟩ = some (.slice A4 s.xs.length k4) := by
      refine (Blk.upd uu HK5.out (fun e => ?_)).cell 0 rfl
      rcases HX5.out.q.2 with ⟨h, _⟩ | ⟨r, cap, cur, h, _, hh, _⟩
      · rw [h] at e; cases e
      · rw [h] at e
        cases e
        have := HK5.out
        unfold Blk at this
        rw [this] at hh
        injection hh with hh
        injection hh with _ h4 _
        exact absurd h4 (by decide)
    have X0 := Lib.hid x0'
    have hrow' : WRow w6 w.heap.size v6 P := by rw [HP.out]; exact hrow
    obtain ⟨A9, c9, rfl⟩ := own_slice hrow'
    have HR6 := Lib.hid hrow'
    have hs5 : (s.xs.length : Int) ≤ 4 := by omega
    have hP3 := HC.out.1
    clear hrun hrow hgr uu hrow' x0' HI5 HX5 HK5
    go_wp2_with (at_builtin; refine wpList_appendK rfl _ _ 35 rfl rfl rfl HRUN.out ?_)
    refine (same_limbs A6 A9 P.length c6 c9 (fun j => P.getD j 0) (by omega) _ (wrow_at HP6.out) (wrow_at HR6.out)).mono ?_
    rintro e w7 ⟨rfl, hU⟩
    have HU7 := Lib.hid (Upd.call hU HU6.out fun _ _ h => h)
    have y0 := hU.cell_eq id X0.out
    clear hU x0 HRUN
    go_wp2_with fail
    go_ret
    exact ⟨rfl, HU7.out⟩
end Go.Proofs.Ytlpfjjhjfmcfmaa
