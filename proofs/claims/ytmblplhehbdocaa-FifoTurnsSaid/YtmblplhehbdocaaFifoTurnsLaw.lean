/- FifoTurns: the law's walk. Conditions: the argument's cells read as numbers. -/
import Derived.Test.YtmblplhehbdocaaFifoAll
import Derived.Test.YtmblplhehbdocaaFifoOrderLaw
import Derived.Test.YtmblplhehbdocaaIRow
import Derived.Test.YtmblplhehbdocaaPick
namespace Go.Proofs.Ytmblplhehbdocaa
open Go.RowKit Go.Shelf
attribute [local go_sem] Oper.semAt_some

theorem Try.info3' : (Try.prog.info? 3).map (fun i => (i.zero, i.size, i.bytes)) = some (some (.int .i64 0), 1, 8) := by kernel_rfl
theorem same_true (A B : Option Addr) (n ca cb : Nat) (X : Nat → Int) (hn : n ≤ 5000) (w : World) (hA : 0 < n → ∃ b o, A = some ⟨b, o, none⟩ ∧ b < w.heap.size ∧ ∀ j, j < n → w.cell? ⟨b, o + j, none⟩ = some (.int .i64 (X j)))
    (hB : 0 < n → ∃ b o, B = some ⟨b, o, none⟩ ∧ b < w.heap.size ∧ ∀ j, j < n → w.cell? ⟨b, o + j, none⟩ = some (.int .i64 (X j))) :
    Calls Try.prog 44 #[.slice A n ca, .slice B n cb] w fun e w' => e = .returned (.bool true) ∧ Upd Non w w' := by
  have HA := Lib.hid hA
  have HB := Lib.hid hB
  clear hA hB
  go_enter Try.func44, Try.ntmps44
  go_wp2_with fail
  go_loopw [5] (fun i wr => ∃ t : Nat, t ≤ n ∧ i = .int .i64 t ∧ Upd Non w wr) (fun i _ => n - (intOf i).toNat)
  case atStart => exact ⟨0, Nat.zero_le _, rfl, Upd.refl _ _⟩
  case round =>
    obtain ⟨t, ht, rfl, hU⟩ := hrel
    have HU := Lib.hid hU
    clear hU
    by_cases hlt : t < n
    · have k1 : (t : Int) < n := by omega
      obtain ⟨b, o, rfl, _, h1⟩ := HA.out (by omega)
      obtain ⟨c, p, rfl, _, h2⟩ := HB.out (by omega)
      have c1 := HU.out.cell_eq id (h1 t hlt)
      have c2 := HU.out.cell_eq id (h2 t hlt)
      clear h1 h2 HA HB
      have hne : (X t != X t) = false := by simp
      go_wp2_with fail
      go_quiet (fail)
      go_wp2_with fail
      go_roundw
      case rel => exact ⟨t + 1, by omega, by go_num, HU.out.drewN⟩
      case measure => simp [intOf]; omega
    · have k1 : ¬ (t : Int) < n := by omega
      go_wp2_with fail
      go_ret
      exact ⟨rfl, HU.out⟩

theorem turns_none (v : Int) (A : Option Addr) (n c : Nat) (h : 300 < n ∨ v < 0) (w : World) :
    Calls Try.prog 10 #[.int .i64 v, .slice A n c] w fun e w' => e = .returned (.bool true) ∧ Upd Non w w' := by
  by_cases h1 : (300 : Int) < n
  · clear h
    go_enter Try.func10, Try.ntmps10
    go_wp2_with (go_at_call 21; refine (awake_spec05 _).mono ?_; rintro e w1 ⟨rfl, hU1⟩)
    go_ret
    exact ⟨rfl, by ((with_reducible repeat' first | exact Upd.refl _ _ | apply Upd.drew | apply Upd.drewN | apply Upd.alloc | refine Upd.setCell ?_ ?_ | refine Upd.call hU1 ?_ ?_) <;> first | (intro _ _ h; exact h) | (intro _ _ h; exact h.elim) | (intro i h1 h2; exfalso; (try simp only at h2); omega) | (left; rfl) | (right; dsimp only; omega) | (right; omega))⟩
  have h2 : v < 0 := by omega
  clear h
  go_enter Try.func10, Try.ntmps10
  go_wp2_with (go_at_call 21; refine (awake_spec05 _).mono ?_; rintro e w1 ⟨rfl, hU1⟩)
  go_ret
  exact ⟨rfl, by ((with_reducible repeat' first | exact Upd.refl _ _ | apply Upd.drew | apply Upd.drewN | apply Upd.alloc | refine Upd.setCell ?_ ?_ | refine Upd.call hU1 ?_ ?_) <;> first | (intro _ _ h; exact h) | (intro _ _ h; exact h.elim) | (intro i h1 h2; exfalso; (try simp only at h2); omega) | (left; rfl) | (right; dsimp only; omega) | (right; omega))⟩

/-- What the law knows between two deeds: what is there, what was put, what was taken, and where they lie. -/
structure TI (w W : World) (b b7 R : Nat) (v6 v7 : Value) (xs P G : List Int) (g r6 r7 : Nat) : Prop where
  fi : FI W b xs R g
  i6 : IRow W w.heap.size v6 P r6
  i7 : IRow W w.heap.size v7 G r7
  bx : Blk W b7 #[v7] 31
  up : Upd Non w W
  sep : w.heap.size ≤ b ∧ w.heap.size ≤ g ∧ w.heap.size ≤ b7 ∧ b ≠ b7 ∧ g ≠ b7 ∧ g < W.heap.size ∧ r6 ≠ b ∧ r6 ≠ g ∧ r6 ≠ b7 ∧ r7 ≠ b ∧ r7 ≠ g ∧ r7 ≠ b7 ∧ r6 ≠ r7

theorem TI.upd {S : Nat → Prop} {w W W' : World} {b b7 R g r6 r7 : Nat} {v6 v7 : Value} {xs P G : List Int} (h : TI w W b b7 R v6 v7 xs P G g r6 r7) (u : Upd S W W') (hs : ∀ i, S i → i ≠ b ∧ i ≠ g ∧ i ≠ r6 ∧ i ≠ r7 ∧ i ≠ b7 ∧ w.heap.size ≤ i) : TI w W' b b7 R v6 v7 xs P G g r6 r7 :=
  ⟨h.fi.upd u (fun k => (hs _ k).1 rfl) (fun k => (hs _ k).2.1 rfl), h.i6.upd u (fun k => (hs _ k).2.2.1 rfl), h.i7.upd u (fun k => (hs _ k).2.2.2.1 rfl), Blk.upd u h.bx (fun k => (hs _ k).2.2.2.2.1 rfl),
    Upd.call u h.up (fun i hi k => by have := (hs i k).2.2.2.2.2; omega), by have := h.sep; have := u.size; omega⟩
theorem TI.non {w W W' : World} {b b7 R g r6 r7 : Nat} {v6 v7 : Value} {xs P G : List Int} (h : TI w W b b7 R v6 v7 xs P G g r6 r7) (u : Upd Non W W') : TI w W' b b7 R v6 v7 xs P G g r6 r7 := h.upd u (fun _ k => k.elim)
theorem TI.fifo {w W W' : World} {b b7 R g g' r6 r7 : Nat} {v6 v7 : Value} {xs ys P G : List Int} (h : TI w W b b7 R v6 v7 xs P G g r6 r7) (u : Upd (fun i => i = b ∨ i = g) W W') (hf : FI W' b ys R g') (hg : g' = g ∨ W.heap.size ≤ g') (hl : g' < W'.heap.size) : TI w W' b b7 R v6 v7 ys P G g' r6 r7 := by
  have hs := h.sep
  have h6 := h.i6.lt
  have h7 := h.i7.lt
  have hb := h.bx.lt
  have hz := u.size
  refine ⟨hf, h.i6.upd u (by omega), h.i7.upd u (by omega), Blk.upd u h.bx (by omega), Upd.call u h.up (fun i hi k => by omega), by have := h.up.size; omega⟩
theorem TI.app6 {w W W' : World} {b b7 R g r6 r7 r : Nat} {v6 v7 v : Value} {xs P P' G : List Int} (h : TI w W b b7 R v6 v7 xs P G g r6 r7) (u : Upd (fun i => i = r6) W W') (hi : IRow W' w.heap.size v P' r) (hr : r = r6 ∨ W.heap.size ≤ r) : TI w W' b b7 R v v7 xs P' G g r r7 := by
  have hs := h.sep
  have h7 := h.i7.lt
  have hb := h.bx.lt
  have hz := u.size
  have hfl := h.fi.lt
  have hlo := h.i6.lo
  exact ⟨h.fi.upd u (by omega) (by omega), hi, h.i7.upd u (by omega), Blk.upd u h.bx (by omega), Upd.call u h.up (fun i hi k => by omega), by omega⟩
theorem TI.app7 {w W W' : World} {b b7 R g r6 r7 r : Nat} {v6 v7 v : Value} {xs P G G' : List Int} (h : TI w W b b7 R v6 v7 xs P G g r6 r7) (u : Upd (fun i => i = r7) W W') (hi : IRow W' w.heap.size v G' r) (hr : r = r7 ∨ W.heap.size ≤ r) : TI w (W'.setCell ⟨b7, 0, none⟩ v) b b7 R v6 v xs P G' g r6 r := by
  have hs := h.sep
  have h6 := h.i6.lt
  have hb := h.bx.lt
  have hz := u.size
  have hfl := h.fi.lt
  have hlo := h.i7.lo
  have u2 : Upd (fun i => i = r7 ∨ i = b7) W (W'.setCell ⟨b7, 0, none⟩ v) := (u.mono (fun _ _ k => .inl k)).setCell (.inl (.inr rfl))
  have u3 : Upd (fun i => i = b7) W' (W'.setCell ⟨b7, 0, none⟩ v) := (Upd.refl _ _).setCell (.inl rfl)
  refine ⟨h.fi.upd u2 (by omega) (by omega), h.i6.upd u2 (by omega), hi.upd u3 (by omega), ?_, Upd.call u2 h.up (fun i hi k => by omega), by have := u2.size; omega⟩
  exact Blk.set (Blk.upd u h.bx (by omega))

/-- The same between two rounds of the range at the law's end: t things have come, out of a copy at block c. -/
structure TJ (w : World) (rec : LoopState → Option Code → Loop) (D b b7 R : Nat) (v6 : Value) (xs P G : List Int) (g r6 c gc t : Nat) (W : World) : Prop where
  lp : LoopAt (rec .ready none) D W
  fc : FI W c xs R gc
  ti : ∃ v7 r7, TI w W b b7 R v6 v7 xs P (G ++ xs.take t) g r6 r7 ∧ r7 ≠ c ∧ r7 ≠ gc ∧ r7 ≠ D ∧ r7 ≠ D + 1
  lo : D + 2 ≤ c ∧ D + 2 ≤ gc

set_option maxRecDepth 100000 in
set_option maxHeartbeats 16000000 in
theorem turns_some (R : Nat) (hR : R ≤ maxI) (A : Option Addr) (N cc : Nat) (X : Nat → Int) (h2 : N ≤ 300) (w : World)
    (hd : 0 < N → ∃ b o, A = some ⟨b, o, none⟩ ∧ ∀ j, j < N → w.cell? ⟨b, o + j, none⟩ = some (.int .i64 (X j))) :
    Calls Try.prog 10 #[.int .i64 R, .slice A N cc] w fun e w' => e = .returned (.bool true) ∧ Upd Non w w' := by
  have k0 : ¬ (300 : Int) < N := by omega
  have k2 : ¬ (R : Int) < 0 := by omega
  have HD := Lib.hid hd
  have HR := Lib.hid hR
  clear hd hR
  refine calls_of_wp_range Try.func10 rfl ?_
  simp only [Try.ntmps10, List.size_toArray, List.length_cons, List.length_nil, Nat.reduceAdd, Nat.reduceSub, Array.replicate_succ, Array.replicate_zero, List.push_toArray, List.append_toArray, List.nil_append, List.cons_append]
  go_wp2_with fail
  refine (awake_two _).mono ?_
  rintro e w1 ⟨rfl, U1, hz1⟩
  have HU1 := Lib.hid U1
  clear U1
  go_wp2_with fail
  refine (new_any R HR.out _).mono ?_
  rintro e w2 ⟨rfl, hF, U⟩
  obtain ⟨b, hb⟩ : ∃ x, x = w1.heap.size := ⟨_, rfl⟩
  rw [← hb] at hF ⊢
  have HF2 := Lib.hid hF
  have HU2 := Lib.hid (by have h := HU1.out; ((with_reducible repeat' first | exact Upd.refl _ _ | apply Upd.drew | apply Upd.drewN | apply Upd.alloc | refine Upd.setCell ?_ ?_ | refine Upd.call U ?_ ?_ | refine Upd.call h ?_ ?_) <;> first | (intro _ _ h; exact h) | (intro _ _ h; exact h.elim) | (intro i h1 h2; exfalso; (try simp only at h2); omega) | (left; rfl) | (right; dsimp only; omega) | (right; omega)) : Upd Non w w2)
  have hbl := hF.lt
  have hbw : w.heap.size + 2 ≤ b := by omega
  clear hF U hb HU1 hz1
  go_wp2_with fail
  obtain ⟨b7, hb7⟩ : ∃ x, x = w2.heap.size := ⟨_, rfl⟩
  have HT := Lib.hid (show TI w (w2.alloc (.cells #[.slice none 0 0] 31)) b b7 R (.slice none 0 0) (.slice none 0 0) [] [] [] b w.heap.size (w.heap.size + 1) from
    ⟨FI.non (by ((with_reducible repeat' first | exact Upd.refl _ _ | apply Upd.drew | apply Upd.drewN | apply Upd.alloc | refine Upd.setCell ?_ ?_) <;> first | (intro _ _ h; exact h) | (intro _ _ h; exact h.elim) | (intro i h1 h2; exfalso; (try simp only at h2); omega) | (left; rfl) | (right; dsimp only; omega) | (right; omega))) HF2.out, IRow.nil _ (Nat.le_refl _) (by rw [World.size_alloc]; omega), IRow.nil _ (Nat.le_succ _) (by rw [World.size_alloc]; omega), Blk.newAt hb7, HU2.out.alloc,
      by rw [World.size_alloc]; omega⟩)
  rw [← hb7]
  clear hb7 HF2 HU2 hbl hbw
  go_loopw [6, 8] (fun v6 i wr => ∃ (t : Nat) (v7 : Value) (xs P G : List Int) (g r6 r7 : Nat), t ≤ N ∧ i = .int .i64 t ∧ P = G ++ xs ∧ P.length ≤ t ∧ TI w wr b b7 R v6 v7 xs P G g r6 r7) (fun _ i _ => N - (intOf i).toNat)
  case atStart => exact ⟨0, _, [], [], [], b, _, _, Nat.zero_le _, rfl, rfl, Nat.le_refl _, HT.out⟩
  case round =>
    clear HT
    obtain ⟨t, v7, xs, P, G, g, r6, r7, ht, rfl, hP, hPl, hT⟩ := hrel
    have HT := Lib.hid hT
    have HP := Lib.hid hP
    have HPL := Lib.hid hPl
    have hsep := hT.sep
    clear hT hP hPl
    have hx7 := HT.out.bx.cell 0 rfl
    have hf7 := HT.out.bx.frozen 0
    have hbl := HT.out.bx.lt
    obtain ⟨A7, c7, rfl⟩ := HT.out.i7.slice
    obtain ⟨A6, c6, rfl⟩ := HT.out.i6.slice
    by_cases hlt : t < N
    · have k1 : (t : Int) < N := by omega
      obtain ⟨ba, o, rfl, hcells⟩ := HD.out (by omega)
      have ce := hcells t hlt
      have hba : ba < w.heap.size := World.block_lt_of_cell? _ _ ce
      have CE := Lib.hid ce
      have d0 := HT.out.up.cell_eq id ce
      clear hcells ce
      by_cases hpk : X t % 3 = 0
      · have HPK := Lib.hid hpk
        clear hpk
        have HTT := Lib.hid hx7
        clear hx7
        go_wp2_with fail
        refine (pick_spec (X t) 3 (by decide) (by decide) _).mono ?_
        rintro e w3 ⟨rfl, rfl⟩
        rw [HPK.out]
        go_wp2_with fail
        refine (take_any05 _ HT.out.fi).mono ?_
        rintro e w3 ⟨rfl, hF, U⟩
        have hgl := HT.out.sep
        have HT3 := Lib.hid (HT.out.fifo (U.mono (fun _ _ k => .inl k)) hF (.inl rfl) (by have := U.size; omega))
        clear hF U hgl HT HTT d0
        have hx7 := HT3.out.bx.cell 0 rfl
        have hf7 := HT3.out.bx.frozen 0
        have hbl := HT3.out.bx.lt
        have hsep3 := HT3.out.sep
        cases xs with
        | nil =>
          have hl : ¬ (G.length : Int) < P.length := by rw [HP.out, List.append_nil]; omega
          have hl2 : ¬ G.length < P.length := by omega
          rw [show headI ([] : List Int) = 0 from rfl, show someI ([] : List Int) = false from rfl]
          go_wp2_with fail
          go_roundw
          case rel => exact ⟨t + 1, _, [], P, G, g, r6, r7, by omega, by go_num, HP.out, by have := HPL.out; omega, HT3.out⟩
          case measure => simp [intOf]; omega
        | cons x xs =>
          have hl : (G.length : Int) < P.length := by rw [HP.out, List.length_append, List.length_cons]; omega
          have hl2 : G.length < P.length := by omega
          have HG := Lib.hid (show G.length ≤ 300 by have := HPL.out; omega)
          rw [show headI (x :: xs) = x from rfl, show someI (x :: xs) = true from rfl]
          go_wp2_with (at_builtin; refine wpList_iappend rfl _ _ 31 rfl Try.underlying31 Try.info3' rfl (HT3.out.i7.non (by ((with_reducible repeat' first | exact Upd.refl _ _ | apply Upd.drew | apply Upd.drewN | apply Upd.alloc | refine Upd.setCell ?_ ?_) <;> first | (intro _ _ h; exact h) | (intro _ _ h; exact h.elim) | (intro i h1 h2; exfalso; (try simp only at h2); omega) | (left; rfl) | (right; dsimp only; omega) | (right; omega)))) w3.heap.size x rfl (Blk.new _ _ _) (by have := HG.out; omega) (by have := HT3.out.up.size; rw [World.size_alloc]; omega) ?_; intro v7' w4 r7' hr hi U4; obtain ⟨A', c', rfl⟩ := hi.slice; rw [List.length_append, List.length_singleton] at hi; have hx8 := (Blk.upd U4 (Blk.alloc HT3.out.bx) (by omega)).cell 0 rfl; have hf8 := (Blk.upd U4 (Blk.alloc HT3.out.bx) (by omega)).frozen 0)
          go_roundw
          case rel =>
            refine ⟨t + 1, .slice A' (G.length + 1) c', xs, P, G ++ [x], g, r6, r7', by omega, by go_num, by rw [HP.out]; simp, by have := HPL.out; omega, ?_⟩
            exact TI.app7 (HT3.out.non (by ((with_reducible repeat' first | exact Upd.refl _ _ | apply Upd.drew | apply Upd.drewN | apply Upd.alloc | refine Upd.setCell ?_ ?_) <;> first | (intro _ _ h; exact h) | (intro _ _ h; exact h.elim) | (intro i h1 h2; exfalso; (try simp only at h2); omega) | (left; rfl) | (right; dsimp only; omega) | (right; omega)))) U4 hi hr
          case measure => simp [intOf]; omega
      · have hne : (X t % 3 == 0) = false := by simpa using hpk
        have hnn := HT.out.fi.le
        have HN := Lib.hid (show xs.length ≤ 2000 by have h1 := HP.out; have h2 := HPL.out; rw [h1, List.length_append] at h2; omega)
        clear hpk hnn
        go_wp2_with fail
        refine (pick_spec (X t) 3 (by decide) (by decide) _).mono ?_
        rintro e w3 ⟨rfl, rfl⟩
        generalize X t % 3 = kk at *
        go_wp2_with fail
        refine (put_any05 (X t) HN.out _ HT.out.fi).mono ?_
        rintro e w3 ⟨rfl, ⟨g', hg', hF⟩, U⟩
        have hgl := hF.glt
        have HT3 := Lib.hid (HT.out.fifo U hF hg' hgl)
        have d1 := HT3.out.up.cell_eq id CE.out
        have HTT := Lib.hid hx7
        have HP3 := Lib.hid (show P.length ≤ 300 by have := HPL.out; omega)
        clear hF U hg' hgl HT hx7 d0 HN
        by_cases hr : xs.length < R
        · rw [decide_eq_true hr]
          rw [if_pos hr] at HT3
          go_wp2_with (at_builtin; refine wpList_iappend rfl _ _ 31 rfl Try.underlying31 Try.info3' rfl (HT3.out.i6.non (by ((with_reducible repeat' first | exact Upd.refl _ _ | apply Upd.drew | apply Upd.drewN | apply Upd.alloc | refine Upd.setCell ?_ ?_) <;> first | (intro _ _ h; exact h) | (intro _ _ h; exact h.elim) | (intro i h1 h2; exfalso; (try simp only at h2); omega) | (left; rfl) | (right; dsimp only; omega) | (right; omega)))) w3.heap.size (X t) rfl (Blk.new _ _ _) (by have := HP3.out; omega) (by have := HT3.out.up.size; rw [World.size_alloc]; omega) ?_; intro v6' w4 r6' hr hi U4; obtain ⟨A', c', rfl⟩ := hi.slice; rw [List.length_append, List.length_singleton] at hi)
          go_roundw
          case rel =>
            refine ⟨t + 1, .slice A7 G.length c7, xs ++ [X t], P ++ [X t], G, g', r6', r7, by omega, by go_num, by rw [HP.out, List.append_assoc], by have := HPL.out; rw [List.length_append, List.length_singleton]; omega, ?_⟩
            exact TI.app6 (HT3.out.non (by ((with_reducible repeat' first | exact Upd.refl _ _ | apply Upd.drew | apply Upd.drewN | apply Upd.alloc | refine Upd.setCell ?_ ?_) <;> first | (intro _ _ h; exact h) | (intro _ _ h; exact h.elim) | (intro i h1 h2; exfalso; (try simp only at h2); omega) | (left; rfl) | (right; dsimp only; omega) | (right; omega)))) U4 hi hr
          case measure => simp [intOf]; omega
        · rw [decide_eq_false hr]
          rw [if_neg hr] at HT3
          go_wp2_with fail
          go_roundw
          case rel => exact ⟨t + 1, .slice A7 G.length c7, xs, P, G, g', r6, r7, by omega, by go_num, HP.out, by have := HPL.out; omega, HT3.out⟩
          case measure => simp [intOf]; omega
    · have k1 : ¬ (t : Int) < N := by omega
      have HN := Lib.hid (show xs.length ≤ 2000 by have h1 := HP.out; have h2 := HPL.out; rw [h1, List.length_append] at h2; omega)
      have HP3 := Lib.hid (show P.length ≤ 300 by have := HPL.out; omega)
      clear hx7 hf7
      go_wp2_with fail
      refine (copy_any HN.out _ HT.out.fi).mono ?_
      rintro e w3 ⟨rfl, ⟨gc, hgc, hC⟩, U⟩
      obtain ⟨c, hc⟩ : ∃ x, x = wr.heap.size := ⟨_, rfl⟩
      rw [← hc] at hC hgc ⊢
      have HC := Lib.hid hC
      have HT3 := Lib.hid (HT.out.non U)
      have hT := HT.out
      have hcs : r6 < c ∧ r7 < c ∧ b7 < c ∧ w.heap.size ≤ c := by
        have h1 := hT.i6.lt
        have h2 := hT.i7.lt
        have h3 := hT.bx.lt
        have h4 := hT.up.size
        omega
      clear hC U hc hT HT
      go_wp2_with fail
      refine (all_spec c _).mono ?_
      rintro e w4 ⟨rfl, hw4⟩
      obtain ⟨bx, hbx⟩ : ∃ x, x = w3.heap.size := ⟨_, rfl⟩
      have HX := Lib.hid (show w4.cell? ⟨bx, 0, none⟩ = some (.pointer (some ⟨c, 0, none⟩)) by rw [hw4]; exact (Blk.newAt hbx : Blk _ bx _ 32).cell 0 rfl)
      have HT4 := Lib.hid (HT3.out.non (show Upd Non w3 w4 by rw [hw4]; exact (Upd.refl _ _).alloc))
      have HC4 := Lib.hid (FI.non (show Upd Non w3 w4 by rw [hw4]; exact (Upd.refl _ _).alloc) HC.out)
      rw [← hbx]
      clear hw4 HT3 HC hbx
      go_wp2_with fail
      refine wp_range (gf := 80) (lb := #[.pointer (some ⟨bx, 0, none⟩)]) rfl (enters_of Try.func80 (by kernel_rfl) rfl) ?_
      intro fn rec hrec W1 hL hU1 hz
      obtain ⟨D, hD⟩ : ∃ D, D = w4.heap.size := ⟨_, rfl⟩
      rw [← hD] at hrec hL hz ⊢
      have HREC := Lib.hid hrec
      have HDD := Lib.hid hD
      have hT4 := HT4.out
      have hcon : b < D ∧ g < D ∧ r6 < D ∧ r7 < D ∧ b7 < D ∧ w.heap.size ≤ D := by
        have h1 := hT4.fi.lt
        have h2 := hT4.fi.glt
        have h3 := hT4.i6.lt
        have h4 := hT4.i7.lt
        have h5 := hT4.bx.lt
        have h6 := hT4.up.size
        omega
      clear hD hrec
      have hHX := HX.out
      have hXW : W1.cell? ⟨bx, 0, none⟩ = some (.pointer (some ⟨c, 0, none⟩)) := hU1.cell_eq id hHX
      have hFC : FI W1 c xs R gc := FI.non hU1 HC4.out
      have hT1 := hT4.non hU1
      refine Calls.mono (R := fun e W' => e = .returned (.tuple #[]) ∧ ((∃ c2 g2, TJ w rec D b b7 R (.slice A6 P.length c6) xs P G g r6 c2 g2 xs.length W') ∨ False)) (all_run (b := c) (m := R) (g := gc) (l := D + 1) (bx := bx) HN.out W1 hXW hFC (TJ w rec D b b7 R (.slice A6 P.length c6) xs P G g r6) (fun _ => False) ?h0 ?hFI ?hdr ?hY) ?hend
      case h0 =>
        intro c2 g2 W' U hc2 hg2 hf
        have h1 := U.size
        exact ⟨hL.upd U id id, hf, ⟨_, r7, by rw [List.take_zero, List.append_nil]; exact hT1.non U, by omega⟩, by omega⟩
      case hFI => exact fun _ _ _ _ h => h.fc
      case hdr =>
        intro c2 g2 u k W' h
        obtain ⟨v7, r7', ht, hs⟩ := h.ti
        exact ⟨⟨h.lp.l, h.lp.d⟩, h.fc.drewN, ⟨v7, r7', ht.non (Upd.refl _ _).drewN, hs⟩, h.lo⟩
      case hY =>
        intro c2 g2 u v W' hJ hv
        refine yield_at HREC.out hJ.lp rfl ?_
        gi_wp2
        refine ⟨rfl, fun W2 hU2 hL2 => ?_⟩
        obtain ⟨v7, r7', hti, hs⟩ := hJ.ti
        obtain ⟨GG, hGG⟩ : ∃ GG, GG = G ++ xs.take u := ⟨_, rfl⟩
        rw [← hGG] at hti
        have hlo := hJ.lo
        have hfc := FI.upd hU2 hJ.fc (by omega) (by omega)
        have hc2l := hfc.lt
        have hg2l := hfc.glt
        have hll := hL2.lt
        have ht2 := hti.upd hU2 (fun i hi => by omega)
        have hr7l := ht2.i7.lt
        have hbl2 := ht2.bx.lt
        have hx7 := ht2.bx.cell 0 rfl
        have hf7 := ht2.bx.frozen 0
        obtain ⟨A7', c7', rfl⟩ := ht2.i7.slice
        have hlen : GG.length ≤ 5000 := by
          rw [hGG]
          have h1 := HP3.out
          have h2 := HN.out
          have h3 := HP.out
          rw [List.length_append, List.length_take]
          rw [h3, List.length_append] at h1
          omega
        have HH := Lib.hid (And.intro hti (And.intro hs (And.intro hlo (And.intro hfc (And.intro ht2 (And.intro hL2 hlen))))))
        have HV := Lib.hid hv
        have HGG := Lib.hid hGG
        have hsw : w.heap.size ≤ W2.heap.size := by omega
        have HJJ := Lib.hid hJ
        have hTI := ht2
        clear hv hJ hlen hfc hti ht2 hGG hL hU1 hT1 hXW hHX hFC hT4
        gi_wp2_with (gi_at_builtin; refine wpListIn_iappend rfl _ _ 31 rfl Try.underlying31 Try.info3' rfl (hTI.i7.non (by ((with_reducible repeat' first | exact Upd.refl _ _ | apply Upd.drew | apply Upd.drewN | apply Upd.alloc | refine Upd.setCell ?_ ?_) <;> first | (intro _ _ h; exact h) | (intro _ _ h; exact h.elim) | (intro i h1 h2; exfalso; (try simp only at h2); omega) | (left; rfl) | (right; dsimp only; omega) | (right; omega)))) W2.heap.size v rfl (Blk.new _ _ _) (by have := HH.out.2.2.2.2.2.2; omega) (by rw [World.size_alloc]; omega) ?_; intro v7'' w5 r7'' hr hi U4; obtain ⟨A', c', rfl⟩ := hi.slice; rw [List.length_append, List.length_singleton] at hi; have hx8 := (Blk.upd U4 (Blk.alloc hTI.bx) (by have := hTI.sep; omega)).cell 0 rfl; have hf8 := (Blk.upd U4 (Blk.alloc hTI.bx) (by have := hTI.sep; omega)).frozen 0)
        have hfin : LoopAt (rec .busy none) D (w5.setCell ⟨b7, 0, none⟩ (.slice A' (GG.length + 1) c')) :=
          LoopAt.upd (S := fun i => i = b7) (by ((with_reducible repeat' first | exact Upd.refl _ _ | apply Upd.drew | apply Upd.drewN | apply Upd.alloc | refine Upd.setCell ?_ ?_) <;> first | (intro _ _ h; exact h) | (intro _ _ h; exact h.elim) | (intro i h1 h2; exfalso; (try simp only at h2); omega) | (left; rfl) | (right; dsimp only; omega) | (right; omega))) (LoopAt.upd U4 (LoopAt.upd (S := Non) (by ((with_reducible repeat' first | exact Upd.refl _ _ | apply Upd.drew | apply Upd.drewN | apply Upd.alloc | refine Upd.setCell ?_ ?_) <;> first | (intro _ _ h; exact h) | (intro _ _ h; exact h.elim) | (intro i h1 h2; exfalso; (try simp only at h2); omega) | (left; rfl) | (right; dsimp only; omega) | (right; omega))) HH.out.2.2.2.2.2.1 id id) (by omega) (by omega)) (by omega) (by omega)
        have hfcn : FI (w5.setCell ⟨b7, 0, none⟩ (.slice A' (GG.length + 1) c')) c2 xs R g2 :=
          FI.upd (S := fun i => i = b7) (by ((with_reducible repeat' first | exact Upd.refl _ _ | apply Upd.drew | apply Upd.drewN | apply Upd.alloc | refine Upd.setCell ?_ ?_) <;> first | (intro _ _ h; exact h) | (intro _ _ h; exact h.elim) | (intro i h1 h2; exfalso; (try simp only at h2); omega) | (left; rfl) | (right; dsimp only; omega) | (right; omega))) (FI.upd U4 (FI.non (by ((with_reducible repeat' first | exact Upd.refl _ _ | apply Upd.drew | apply Upd.drewN | apply Upd.alloc | refine Upd.setCell ?_ ?_) <;> first | (intro _ _ h; exact h) | (intro _ _ h; exact h.elim) | (intro i h1 h2; exfalso; (try simp only at h2); omega) | (left; rfl) | (right; dsimp only; omega) | (right; omega))) HH.out.2.2.2.1) (by omega) (by omega)) (by omega) (by omega)
        have htin := TI.app7 (hTI.non (by ((with_reducible repeat' first | exact Upd.refl _ _ | apply Upd.drew | apply Upd.drewN | apply Upd.alloc | refine Upd.setCell ?_ ?_) <;> first | (intro _ _ h; exact h) | (intro _ _ h; exact h.elim) | (intro i h1 h2; exfalso; (try simp only at h2); omega) | (left; rfl) | (right; dsimp only; omega) | (right; omega)))) U4 hi hr
        refine ⟨hfin, fun W4 hU4 hL4 => ⟨rfl, hL4, FI.upd hU4 hfcn (by omega) (by omega), ⟨.slice A' (GG.length + 1) c', r7'', ?_, by rw [World.size_alloc] at hr; omega⟩, hlo⟩⟩
        have hGn : G ++ xs.take (u + 1) = GG ++ [v] := by rw [HGG.out, List.take_add_one, HV.out, List.append_assoc]; rfl
        rw [hGn]
        exact htin.upd hU4 (fun i hi => by rw [World.size_alloc] at hr; omega)
      case hend =>
        rintro e W' ⟨rfl, ⟨c2, g2, hJ⟩ | h⟩
        · refine ⟨⟨_, rfl⟩, .inl ⟨hJ.lp, fun W4 hU4 hd4 => ?_⟩⟩
          obtain ⟨v7, r7', hti, hs⟩ := hJ.ti
          rw [List.take_length, ← HP.out] at hti
          have ht4 := hti.upd hU4 (fun i hi => by omega)
          have hx7 := ht4.bx.cell 0 rfl
          obtain ⟨A7', c7', rfl⟩ := ht4.i7.slice
          have HT5 := Lib.hid ht4
          have HK := Lib.hid hd4
          clear hd4 hL hU1 hT1 hXW hHX hFC hT4 hJ hti ht4
          go_wp2_with fail
          refine (same_true A6 A7' P.length c6 c7' (fun j => P.getD j 0) (by have := HP3.out; omega) _ HT5.out.i6.at HT5.out.i7.at).mono ?_
          rintro e w6 ⟨rfl, U⟩
          have HK6 := Lib.hid ((U.block D (Array.getElem?_eq_some_iff.1 HK.out).1 id).trans HK.out)
          have HU6 := Lib.hid (by have h := HT5.out.up; ((with_reducible repeat' first | exact Upd.refl _ _ | apply Upd.drew | apply Upd.drewN | apply Upd.alloc | refine Upd.setCell ?_ ?_ | refine Upd.call U ?_ ?_ | refine Upd.call h ?_ ?_) <;> first | (intro _ _ h; exact h) | (intro _ _ h; exact h.elim) | (intro i h1 h2; exfalso; (try simp only at h2); omega) | (left; rfl) | (right; dsimp only; omega) | (right; omega)) : Upd Non w w6)
          clear U
          go_wp2_with fail
          refine postM_ret1 (fun w' _ => results_tmp rfl _ _ _) rfl HK6.out ?_
          intro w7 hU7
          exact ⟨rfl, by have h := HU6.out; ((with_reducible repeat' first | exact Upd.refl _ _ | apply Upd.drew | apply Upd.drewN | apply Upd.alloc | refine Upd.setCell ?_ ?_ | refine Upd.call hU7 ?_ ?_ | refine Upd.call h ?_ ?_) <;> first | (intro _ _ h; exact h) | (intro _ _ h; exact h.elim) | (intro i h1 h2; exfalso; (try simp only at h2); omega) | (left; rfl) | (right; dsimp only; omega) | (right; omega))⟩
        · exact h.elim

theorem turns_law (v : Int) (hv : v ≤ 9223372036854775807) (A : Option Addr) (N cc : Nat) (X : Nat → Int) (w : World)
    (hd : 0 < N → ∃ b o, A = some ⟨b, o, none⟩ ∧ ∀ j, j < N → w.cell? ⟨b, o + j, none⟩ = some (.int .i64 (X j))) :
    Calls Try.prog 10 #[.int .i64 v, .slice A N cc] w fun e w' => e = .returned (.bool true) ∧ Upd Non w w' := by
  by_cases h : 300 < N ∨ v < 0
  · exact turns_none v A N cc h w
  · obtain ⟨R, rfl⟩ := Int.eq_ofNat_of_zero_le (show 0 ≤ v by omega)
    exact turns_some R (by unfold maxI; omega) A N cc X (by omega) w hd
end Go.Proofs.Ytmblplhehbdocaa
