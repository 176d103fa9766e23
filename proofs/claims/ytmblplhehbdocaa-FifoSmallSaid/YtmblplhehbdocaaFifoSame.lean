/- The law's own comparison (same) returns true. Conditions: both fifos are known, of the same things, with the same room. -/
import Derived.Test.YtmblplhehbdocaaFifoRef
import Derived.Deep.CutBlock
import Derived.Deep.CutRange
namespace Go.Proofs.Ytmblplhehbdocaa
open Go.RowKit Go.Shelf
attribute [local go_sem] Oper.semAt_some

theorem quiet_same {P : Program} {f : FuncId} {args : Array Value} {w : World} {n : Nat} {v : Value} (h : Calls P f args (w.drewN n) fun e w' => e = .returned v ∧ w.drewN n = w') : Calls P f args (w.drewN n) fun e w'' => e = .returned v ∧ ∃ m, w'' = w.drewN m :=
  h.mono fun _ _ ⟨he, hm⟩ => ⟨he, n, hm.symm⟩
theorem RF.cell {w : World} {base rr m r : Nat} {xs : List Int} (h : RF w base rr xs m r) : ∃ A c, w.cell? ⟨rr, 0, none⟩ = some (.int .i64 m) ∧ w.cell? ⟨rr, 1, none⟩ = some (.slice A xs.length c) ∧
    (0 < xs.length → ∃ off, A = some ⟨r, off, none⟩ ∧ ∀ (j : Nat) (u : Int), xs[j]? = some u → w.cell? ⟨r, off + j, none⟩ = some (.int .i64 u)) := by
  obtain ⟨v, hb, ho, hne⟩ := h
  obtain ⟨A, c, rfl⟩ := ho.slice
  refine ⟨A, c, hb.cell 0 rfl, hb.cell 1 rfl, fun hn => ?_⟩
  obtain ⟨off, cap, he, _, hc⟩ := ho.cells hn
  simp only [Value.slice.injEq, true_and] at he
  exact ⟨off, he.1, hc⟩

/-- What holds between two rounds: t things have come, out of a copy at block c. -/
structure SJ (w : World) (rec : LoopState → Option Code → Loop) (D b3 b4 b7 base rr r m : Nat) (xs : List Int) (c gc t : Nat) (W : World) : Prop where
  lp : LoopAt (rec .ready none) D W
  fc : FI W c xs m gc
  rf : RF W base rr xs m r
  x3 : Blk W b3 #[.pointer (some ⟨rr, 0, none⟩)] 89
  x4 : Blk W b4 #[.bool false] 4
  x7 : Blk W b7 #[.int .i64 t] 3
  up : Upd Non w W
  lo : D + 2 ≤ c ∧ D + 2 ≤ gc
theorem RF.rowat {w : World} {base rr m r u : Nat} {xs : List Int} {v : Int} (h : RF w base rr xs m r) (hv : xs[u]? = some v) : ∃ off cap, w.cell? ⟨rr, 1, none⟩ = some (.slice (some ⟨r, off, none⟩) xs.length cap) ∧ w.cell? ⟨r, off + u, none⟩ = some (.int .i64 v) := by
  obtain ⟨A, c, _, h1, h2⟩ := h.cell
  obtain ⟨off, rfl, h3⟩ := h2 (by have := (List.getElem?_eq_some_iff.1 hv).1; omega)
  exact ⟨off, c, h1, h3 u v hv⟩

set_option maxRecDepth 100000 in
set_option maxHeartbeats 16000000 in
theorem same05 {b m g base rr r : Nat} {xs : List Int} (hn : xs.length ≤ 2000) (w : World) (hF : FI w b xs m g) (hR : RF w base rr xs m r) :
    Calls Try.prog 49 #[.pointer (some ⟨b, 0, none⟩), .pointer (some ⟨rr, 0, none⟩)] w fun e w' => e = .returned (.bool true) ∧ Upd Non w w' := by
  have HF := Lib.hid hF
  have HR := Lib.hid hR
  have hlt := hR.lt
  have hfl := hF.lt
  clear hF hR
  refine calls_of_wp_range Try.func49 rfl ?_
  simp only [Try.ntmps49, List.size_toArray, List.length_cons, List.length_nil, Nat.reduceAdd, Nat.reduceSub, Array.replicate_succ, Array.replicate_zero, List.push_toArray, List.append_toArray, List.nil_append, List.cons_append]
  go_wp2_with fail
  refine (first_any _ (FI.non (by ((with_reducible repeat' first | exact Upd.refl _ _ | apply Upd.drew | apply Upd.drewN | apply Upd.alloc | refine Upd.setCell ?_ ?_) <;> first | (intro _ _ h; exact h) | (intro _ _ h; exact h.elim) | (intro i h1 h2; exfalso; (try simp only at h2); omega) | (left; rfl) | (right; dsimp only; omega) | (right; omega))) HF.out)).mono ?_
  rintro e w1 ⟨rfl, k, rfl⟩
  obtain ⟨w1, hw1⟩ : ∃ x, x = ((w.alloc (.cells #[.pointer (some ⟨rr, 0, none⟩)] 89)).alloc (.cells #[.bool false] 4)).drewN k := ⟨_, rfl⟩
  obtain ⟨b4, hb4⟩ : ∃ x, x = w.heap.size + 1 := ⟨_, rfl⟩
  obtain ⟨b3, hb3⟩ : ∃ x, x = w.heap.size := ⟨_, rfl⟩
  have HU1 := Lib.hid (show Upd Non w w1 by rw [hw1]; ((with_reducible repeat' first | exact Upd.refl _ _ | apply Upd.drew | apply Upd.drewN | apply Upd.alloc | refine Upd.setCell ?_ ?_) <;> first | (intro _ _ h; exact h) | (intro _ _ h; exact h.elim) | (intro i h1 h2; exfalso; (try simp only at h2); omega) | (left; rfl) | (right; dsimp only; omega) | (right; omega)))
  have HX3 := Lib.hid (show Blk w1 b3 #[.pointer (some ⟨rr, 0, none⟩)] 89 by rw [hw1]; exact Blk.drewN (Blk.alloc (Blk.newAt hb3)))
  have HX4 := Lib.hid (show Blk w1 b4 #[.bool false] 4 by rw [hw1]; exact Blk.drewN (Blk.newAt (by rw [World.size_alloc]; exact hb4)))
  have hbb : w.heap.size ≤ b3 ∧ w.heap.size ≤ b4 ∧ b3 ≠ b4 := by omega
  rw [← hw1, ← hb4, ← hb3]
  have HF1 := Lib.hid (FI.non HU1.out HF.out)
  have HR1 := Lib.hid (RF.non HU1.out HR.out)
  clear hw1 hb4 hb3
  obtain ⟨A, c, r0, r1, r2⟩ := HR1.out.cell
  have x3 := HX3.out.cell 0 rfl
  have hle := HF1.out.le
  have g0 := wrap_le hle.2.2 xs.length hle.1
  obtain ⟨D, hD⟩ : ∃ D : Int, (m : Int) - (xs.length : Int) = D := ⟨_, rfl⟩
  have g1 := g0.trans hD
  clear g0
  have HD := Lib.hid hD
  have z1 : ((xs.length : Int) != (xs.length : Int)) = false := by simp
  have z2 : (D != D) = false := by simp
  clear hle hD
  go_upto_region 2 with fail
  go_cut [68] from 15 to 68 (fun v wx => v = .bool false ∧ ∃ k, wx = w1.drewN k)
  case first =>
    cases xs with
    | nil =>
      rw [show headI ([] : List Int) = 0 from rfl, show someI ([] : List Int) = false from rfl]
      have z3 : ((0 : Int) != 0) = false := rfl
      have z4 : ((m : Int) != (m : Int)) = false := by simp
      have g3 : IntKind.i64.wrap (m : Int) = (m : Int) := by
        have := wrap_le HF1.out.le.2.2 0 (Nat.zero_le _)
        rw [show ((0 : Nat) : Int) = 0 from rfl, Int.sub_zero] at this
        exact this
      clear g1 z1 z2
      go_wp2_with fail
      go_quiet ((first | (go_at_call 24; exact quiet_same (len_is 0 rfl _ (FI.drewN HF1.out))) | (go_at_call 25; exact quiet_at (left_is (m : Int) (Int.sub_zero _) _ (FI.drewN HF1.out)))))
      go_wp2_with fail
      go_meet
      exact ⟨rfl, _, rfl⟩
    | cons x l =>
      rw [show headI (x :: l) = x from rfl, show someI (x :: l) = true from rfl]
      obtain ⟨off, rfl, hcells⟩ := r2 (by simp)
      have cx : w1.cell? ⟨r, off, none⟩ = some (.int .i64 x) := hcells 0 x rfl
      have z3 : (x != x) = false := by simp
      have z4 : (0 : Int) < ((x :: l).length : Int) := by rw [List.length_cons]; omega
      have z5 : 0 < (x :: l).length := by simp
      obtain ⟨N, hN⟩ : ∃ N, N = (x :: l).length := ⟨_, rfl⟩
      rw [← hN] at r1 g1 z1 z4 z5
      have HN := Lib.hid hN
      clear hcells r2 hN
      go_wp2_with fail
      go_quiet ((first | (go_at_call 24; exact quiet_same (len_is (N : Int) (by rw [HN.out]) _ (FI.drewN HF1.out))) | (go_at_call 25; exact quiet_at (left_is D HD.out _ (FI.drewN HF1.out)))))
      go_wp2_with fail
      go_meet
      exact ⟨rfl, _, rfl⟩
  case rest =>
    obtain ⟨rfl, k2, rfl⟩ := hcut
    clear r0 r1 r2 x3 g1 z1 z2
    obtain ⟨w2, hw2⟩ : ∃ x, x = w1.drewN k2 := ⟨_, rfl⟩
    have U2 : Upd Non w1 w2 := by rw [hw2]; exact (Upd.refl _ _).drewN
    have HF2 := Lib.hid (FI.non U2 HF1.out)
    have HR2 := Lib.hid (RF.non U2 HR1.out)
    have HX3' := Lib.hid (Blk.upd U2 HX3.out id)
    have HX4' := Lib.hid (Blk.upd U2 HX4.out id)
    have HU2 := Lib.hid (by have h := HU1.out; ((with_reducible repeat' first | exact Upd.refl _ _ | apply Upd.drew | apply Upd.drewN | apply Upd.alloc | refine Upd.setCell ?_ ?_ | refine Upd.call U2 ?_ ?_ | refine Upd.call h ?_ ?_) <;> first | (intro _ _ h; exact h) | (intro _ _ h; exact h.elim) | (intro i h1 h2; exfalso; (try simp only at h2); omega) | (left; rfl) | (right; dsimp only; omega) | (right; omega)) : Upd Non w w2)
    rw [← hw2]
    clear hw2 U2 HF1 HR1 HX3 HX4 HU1
    go_wp2_with fail
    refine (all_spec b _).mono ?_
    rintro e w4 ⟨rfl, hw4⟩
    obtain ⟨b7, hb7⟩ : ∃ x, x = w2.heap.size := ⟨_, rfl⟩
    obtain ⟨bx, hbx⟩ : ∃ x, x = w2.heap.size + 1 := ⟨_, rfl⟩
    have hX7 : Blk w4 b7 #[.int .i64 (0 : Nat)] 3 := by rw [hw4]; exact Blk.alloc (Blk.newAt hb7)
    have hXX : w4.cell? ⟨bx, 0, none⟩ = some (.pointer (some ⟨b, 0, none⟩)) := by
      have : Blk w4 bx #[.pointer (some ⟨b, 0, none⟩)] 32 := by rw [hw4]; exact Blk.newAt (by rw [World.size_alloc]; exact hbx)
      exact this.cell 0 rfl
    have hU4 : Upd Non w2 w4 := by rw [hw4]; ((with_reducible repeat' first | exact Upd.refl _ _ | apply Upd.drew | apply Upd.drewN | apply Upd.alloc | refine Upd.setCell ?_ ?_) <;> first | (intro _ _ h; exact h) | (intro _ _ h; exact h.elim) | (intro i h1 h2; exfalso; (try simp only at h2); omega) | (left; rfl) | (right; dsimp only; omega) | (right; omega))
    have hz4 : w4.heap.size = w2.heap.size + 2 := by rw [hw4]; simp
    have hbe : ({ block := (w2.alloc (.cells #[.int .i64 0] 3)).heap.size, off := 0, spot := none } : Addr) = ⟨bx, 0, none⟩ := by rw [World.size_alloc, hbx]
    have HX7 := Lib.hid hX7
    have HXX := Lib.hid hXX
    have HF4 := Lib.hid (FI.non hU4 HF2.out)
    have HR4 := Lib.hid (RF.non hU4 HR2.out)
    have HX34 := Lib.hid (Blk.upd hU4 HX3'.out id)
    have HX44 := Lib.hid (Blk.upd hU4 HX4'.out id)
    have HU4 := Lib.hid (by have h := HU2.out; ((with_reducible repeat' first | exact Upd.refl _ _ | apply Upd.drew | apply Upd.drewN | apply Upd.alloc | refine Upd.setCell ?_ ?_ | refine Upd.call hU4 ?_ ?_ | refine Upd.call h ?_ ?_) <;> first | (intro _ _ h; exact h) | (intro _ _ h; exact h.elim) | (intro i h1 h2; exfalso; (try simp only at h2); omega) | (left; rfl) | (right; dsimp only; omega) | (right; omega)) : Upd Non w w4)
    have hsz : w.heap.size ≤ b7 ∧ b7 ≠ b3 ∧ b7 ≠ b4 ∧ b7 ≠ b ∧ b7 ≠ g ∧ b7 ≠ rr ∧ b7 ≠ r ∧ b7 < w4.heap.size ∧ b3 < w4.heap.size ∧ b4 < w4.heap.size ∧ w.heap.size ≤ w4.heap.size := by
      have h1 := HX3'.out.lt
      have h2 := HX4'.out.lt
      have h3 := HF2.out.lt
      have h4 := HF2.out.glt
      have h5 := HR2.out.lt
      have h6 := HU2.out.size
      omega
    rw [← hb7, hbe]
    clear hw4 hX7 hXX hU4 hb7 hbx hbe hz4 HF2 HR2 HX3' HX4' HU2
    go_wp2_with fail
    refine wp_range (gf := 80) (lb := #[.pointer (some ⟨bx, 0, none⟩)]) rfl (enters_of Try.func80 (by kernel_rfl) rfl) ?_
    intro fn rec hrec W1 hL hU1 hz
    obtain ⟨D2, hD2⟩ : ∃ D, D = w4.heap.size := ⟨_, rfl⟩
    rw [← hD2] at hrec hL hz ⊢
    have HREC := Lib.hid hrec
    have hcon : b3 < D2 ∧ b4 < D2 ∧ b7 < D2 ∧ rr < D2 ∧ r < D2 ∧ w.heap.size ≤ D2 := by
      have h1 := HR4.out.lt
      omega
    have hHXX := HXX.out
    have hXW : W1.cell? ⟨bx, 0, none⟩ = some (.pointer (some ⟨b, 0, none⟩)) := hU1.cell_eq id hHXX
    have hFC : FI W1 b xs m g := FI.non hU1 HF4.out
    clear hD2 hrec hHXX
    refine Calls.mono (R := fun e W' => e = .returned (.tuple #[]) ∧ ((∃ c2 g2, SJ w rec D2 b3 b4 b7 base rr r m xs c2 g2 xs.length W') ∨ False)) (all_run (b := b) (m := m) (g := g) (l := D2 + 1) (bx := bx) hn W1 hXW hFC (SJ w rec D2 b3 b4 b7 base rr r m xs) (fun _ => False) ?h0 ?hFI ?hdr ?hY) ?hend
    case h0 =>
      intro c2 g2 W' U hc2 hg2 hf
      have h1 := U.size
      exact ⟨hL.upd U id id, hf, RF.non U (RF.non hU1 HR4.out), Blk.upd U (Blk.upd hU1 HX34.out id) id, Blk.upd U (Blk.upd hU1 HX44.out id) id, Blk.upd U (Blk.upd hU1 HX7.out id) id, Upd.call U (Upd.call hU1 HU4.out fun _ _ h => h) fun _ _ h => h, by omega⟩
    case hFI => exact fun _ _ _ _ h => h.fc
    case hdr =>
      intro c2 g2 u k W' h
      exact ⟨⟨h.lp.l, h.lp.d⟩, h.fc.drewN, RF.non (Upd.refl _ _).drewN h.rf, h.x3, h.x4, h.x7, h.up.drewN, h.lo⟩
    case hY =>
      intro c2 g2 u v W' hJ hv
      refine yield_at HREC.out hJ.lp rfl ?_
      gi_wp2
      refine ⟨rfl, fun W2 hU2 hL2 => ?_⟩
      have hlo := hJ.lo
      have hfc := FI.upd hU2 hJ.fc (by omega) (by omega)
      have hrf := RF.upd hU2 hJ.rf (by omega) (by omega)
      have h3 := Blk.upd hU2 hJ.x3 (by omega)
      have h4 := Blk.upd hU2 hJ.x4 (by omega)
      have h7 := Blk.upd hU2 hJ.x7 (by omega)
      have hup := Upd.call hU2 hJ.up (fun i hi h => by omega)
      have hul : u < xs.length := (List.getElem?_eq_some_iff.1 hv).1
      obtain ⟨off, cap, r1, r2⟩ := hrf.rowat hv
      have x3 := h3.cell 0 rfl
      have x7 := h7.cell 0 rfl
      have f7 := h7.frozen 0
      have k1 : ¬ (xs.length : Int) ≤ u := by omega
      have k2 : (u : Int) < xs.length := by omega
      have kb : decide ((xs.length : Int) ≤ (u : Int)) = false := decide_eq_false k1
      have kn : decide (xs.length ≤ u) = false := decide_eq_false (by omega)
      have k3 : (0 : Int) ≤ u := by omega
      have k4 : ((u : Int) != (u : Int)) = false := by simp
      have k5 : (v != v) = false := by simp
      have k6 : IntKind.i64.wrap ((u : Int) + 1) = (u : Int) + 1 := IntWalk.i64_in _ (by omega)
      have HH := Lib.hid (And.intro hfc (And.intro hrf (And.intro h3 (And.intro h4 (And.intro h7 (And.intro hup (And.intro hL2 hlo)))))))
      have h7l := h7.lt
      clear hJ hv hfc hrf h3 h4 h7 hup hL hU1 hXW hFC
      gi_wp2
      refine quiet_round (by kernel_rfl) (by kernel_rfl) (by kernel_rfl) (fun ⟨_, _, h⟩ => h) ?_
      repeat (go_big_quiet_step (fail))
      refine wpQuiet_nil ?_
      intro _ hw'
      obtain ⟨nq, hw''⟩ := hw'
      subst hw''
      gi_wp2
      obtain ⟨q1, q2, q3, q4, q5, q6, q7, q8⟩ := HH.out
      have u5 : Upd (fun i => i = b7) W2 ((W2.drewN nq).setCell ⟨b7, 0, none⟩ (.int .i64 ((u : Int) + 1))) := by ((with_reducible repeat' first | exact Upd.refl _ _ | apply Upd.drew | apply Upd.drewN | apply Upd.alloc | refine Upd.setCell ?_ ?_) <;> first | (intro _ _ h; exact h) | (intro _ _ h; exact h.elim) | (intro i h1 h2; exfalso; (try simp only at h2); omega) | (left; rfl) | (right; dsimp only; omega) | (right; omega))
      refine ⟨q7.upd u5 (by omega) (by omega), fun W4 hU4 hL4 => ⟨rfl, hL4, FI.upd hU4 (FI.upd u5 q1 (by omega) (by omega)) (by omega) (by omega), RF.upd hU4 (RF.upd u5 q2 (by omega) (by omega)) (by omega) (by omega), Blk.upd hU4 (Blk.upd u5 q3 (by omega)) (by omega), Blk.upd hU4 (Blk.upd u5 q4 (by omega)) (by omega), Blk.upd hU4 ?_ (by omega), Upd.call hU4 (Upd.call u5 q6 (fun i hi h => by omega)) (fun i hi h => by omega), hlo⟩⟩
      exact Blk.eq (Blk.set (Blk.drewN q5)) (by rw [show ((u + 1 : Nat) : Int) = (u : Int) + 1 by omega]; rfl)
    case hend =>
      rintro e W' ⟨rfl, ⟨c2, g2, hJ⟩ | h⟩
      · refine ⟨⟨_, rfl⟩, .inl ⟨hJ.lp, fun W4 hU4 hd4 => ?_⟩⟩
        have hrf := RF.upd hU4 hJ.rf (by omega) (by omega)
        have h3 := Blk.upd hU4 hJ.x3 (by omega)
        have h4 := Blk.upd hU4 hJ.x4 (by omega)
        have h7 := Blk.upd hU4 hJ.x7 (by omega)
        have hup := Upd.call hU4 hJ.up (fun i hi h => by omega)
        obtain ⟨A2, c2', r0, r1, _⟩ := hrf.cell
        have x3 := h3.cell 0 rfl
        have x4 := h4.cell 0 rfl
        have f4 := h4.frozen 0
        have x7 := h7.cell 0 rfl
        have HK := Lib.hid (And.intro hd4 (And.intro h4 hup))
        have h4l := h4.lt
        clear hJ hd4 hrf h3 h4 h7 hup hL hU1 hXW hFC r0
        have hne4 : b4 ≠ D2 := by omega
        go_wp2_with fail
        go_region
        all_goals
          go_wp2_with fail
          refine postM_ret1 (v := .bool true) (D := D2) ?_ rfl ?_ ?_
          · intro w' hU'
            have hc : w'.cell? ⟨b4, 0, none⟩ = some (.bool true) := (Blk.upd hU' (Blk.set HK.out.2.1) hne4).cell 0 rfl
            simp [results, Try.results49, go_sem, hc]
          · exact (show Upd (fun i => i = b4) W4 _ by ((with_reducible repeat' first | exact Upd.refl _ _ | apply Upd.drew | apply Upd.drewN | apply Upd.alloc | refine Upd.setCell ?_ ?_) <;> first | (intro _ _ h; exact h) | (intro _ _ h; exact h.elim) | (intro i h1 h2; exfalso; (try simp only at h2); omega) | (left; rfl) | (right; dsimp only; omega) | (right; omega))).block D2 (Array.getElem?_eq_some_iff.1 HK.out.1).1 (fun e => hne4 e.symm) |>.trans HK.out.1
          · intro w' hU'
            have h := HK.out.2.2
            exact ⟨rfl, by ((with_reducible repeat' first | exact Upd.refl _ _ | apply Upd.drew | apply Upd.drewN | apply Upd.alloc | refine Upd.setCell ?_ ?_ | refine Upd.call hU' ?_ ?_ | refine Upd.call h ?_ ?_) <;> first | (intro _ _ h; exact h) | (intro _ _ h; exact h.elim) | (intro i h1 h2; exfalso; (try simp only at h2); omega) | (left; rfl) | (right; dsimp only; omega) | (right; omega))⟩
      · exact h.elim
end Go.Proofs.Ytmblplhehbdocaa
