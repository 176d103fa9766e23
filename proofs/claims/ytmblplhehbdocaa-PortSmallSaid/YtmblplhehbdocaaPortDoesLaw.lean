/- PortDoes: the law's walk. Conditions: the argument's cells read as numbers. -/
import Derived.Test.YtmblplhehbdocaaPortSame
import Derived.Test.YtmblplhehbdocaaPick
import Derived.Deep.CutBlock
namespace Go.Proofs.Ytmblplhehbdocaa
open Go.RowKit

theorem RS.put_qs (r : RS) (k : Int) (n : Nat) (hn : n ≠ 0) : (r.put k n).qs = r.qs.putS k (AK.of n) := by
  unfold RS.put QS.putS
  split
  · rfl
  · by_cases h : r.n k.toNat = 0
    · rw [if_pos h, if_pos (show r.qs.st k.toNat = 0 from if_pos h)]
      exact RS.qs_put r _ n hn
    · rw [if_neg h, if_neg (show ¬ r.qs.st k.toNat = 0 from fun e => by
        have e' : (if r.n k.toNat = 0 then (0 : Int) else if r.aw k.toNat then 2 else 1) = 0 := e
        rw [if_neg h] at e'
        split at e' <;> cases e')]
theorem RS.put_ok {r : RS} (ok : r.Ok) (k : Int) (n : Nat) (hn : n ≤ 301) : (r.put k n).Ok := by
  unfold RS.put
  split
  · exact ok
  · split
    · exact ok.set _ _ _ hn (fun h => by cases h)
    · exact ok
theorem RS.take_qs (r : RS) (k : Int) : (r.take k).qs = r.qs.takeS k := by
  unfold RS.take QS.takeS
  split
  · rfl
  · by_cases h : r.n k.toNat = 0
    · rw [if_pos h, if_neg]
      show ¬ (if r.n k.toNat = 0 then (0 : Int) else if r.aw k.toNat then 2 else 1) = 1
      rw [if_pos h]; decide
    · rw [if_neg h]
      by_cases ha : r.aw k.toNat = true
      · rw [RS.set_same r _ _ _ rfl ha, if_neg]
        show ¬ (if r.n k.toNat = 0 then (0 : Int) else if r.aw k.toNat then 2 else 1) = 1
        rw [if_neg h, if_pos ha]; decide
      · rw [RS.qs_away r _ h, if_pos]
        show (if r.n k.toNat = 0 then (0 : Int) else if r.aw k.toNat then 2 else 1) = 1
        rw [if_neg h, if_neg ha]
theorem RS.take_ok {r : RS} (ok : r.Ok) (k : Int) : (r.take k).Ok := by
  unfold RS.take
  split
  · exact ok
  · by_cases h : r.n k.toNat = 0
    · rw [if_pos h]; exact ok
    · rw [if_neg h]; exact ok.set _ _ _ (ok.le _) (fun _ => h)
theorem RS.take_is (r : RS) (k : Int) : (r.qs.takeO k = false ∧ r.takeN k = 0 ∧ r.qs.takeA k = AK.no) ∨ (r.qs.takeO k = true ∧ 0 < r.takeN k ∧ r.qs.takeA k = AK.of (r.takeN k)) := by
  unfold QS.takeO QS.takeA RS.takeN
  split
  · exact .inl ⟨rfl, rfl, rfl⟩
  · have hs : r.qs.st k.toNat = if r.n k.toNat = 0 then (0 : Int) else if r.aw k.toNat then 2 else 1 := rfl
    have hak : r.qs.ak k.toNat = if r.n k.toNat = 0 then AK.no else AK.of (r.n k.toNat) := rfl
    rw [hs, hak]
    by_cases h : r.n k.toNat = 0
    · simp [h]
    · by_cases ha : r.aw k.toNat = true
      · simp [h, ha]
      · simp [h, ha]; omega
theorem RS.back_qs {r : RS} (ok : r.Ok) (k : Int) : (r.back k).qs = r.qs.backS k := by
  unfold RS.back QS.backS
  split
  · rfl
  · by_cases ha : r.aw k.toNat = true
    · rw [if_pos ha, if_pos]
      · exact RS.qs_back r _
      · show (if r.n k.toNat = 0 then (0 : Int) else if r.aw k.toNat then 2 else 1) = 2
        rw [if_neg (ok.aw _ ha), if_pos ha]
    · rw [if_neg ha, if_neg]
      show ¬ (if r.n k.toNat = 0 then (0 : Int) else if r.aw k.toNat then 2 else 1) = 2
      rw [if_neg ha]
      split <;> decide
theorem RS.back_ok {r : RS} (ok : r.Ok) (k : Int) : (r.back k).Ok := by
  unfold RS.back
  split
  · exact ok
  · split
    · exact ok.set _ _ _ (Nat.zero_le _) (fun h => by cases h)
    · exact ok

theorem ask_next (t : Nat) (w : World) : Calls Try.prog 32 #[.int .i64 ((t : Int) + 1)] w fun e w' => e = .returned (.agg (AK.of (t + 1)).enc) ∧ Upd Non w w' := ask_spec (t + 1) w
theorem ask_7 (w : World) : Calls Try.prog 32 #[.int .i64 7] w fun e w' => e = .returned (.agg (AK.of 7).enc) ∧ Upd Non w w' := ask_spec 7 w
theorem put_0 (s : QS) (b : Nat) (a : AK) (w : World) (hb : QBlk w b s) :
    Calls Try.prog 31 #[.pointer (some ⟨b, 0, none⟩), .int .i64 0, .agg a.enc] w fun e w' => e = .returned (.int .i64 (s.putE 0)) ∧ QBlk w' b (s.putS 0 a) ∧ Upd (fun i => i = b) w w' := put_any s b 0 a w hb
theorem rput_next (r : RS) (rr : Nat) (k : Int) (t : Nat) (w : World) (hb : RBlk w rr r) :
    Calls Try.prog 56 #[.pointer (some ⟨rr, 0, none⟩), .int .i64 k, .int .i64 ((t : Int) + 1)] w fun e w' => e = .returned (.int .i64 (r.qs.putE k)) ∧ RBlk w' rr (r.put k (t + 1)) ∧ Upd (fun i => i = rr) w w' := rputp_any r rr k (t + 1) w hb

/-- What the law knows between two steps. -/
structure DP (w : World) (b rr : Nat) (r : RS) (W : World) : Prop where
  q : QBlk W b r.qs
  rb : RBlk W rr r
  up : Upd Non w W
  ok : r.Ok
  lo : w.heap.size ≤ b ∧ w.heap.size ≤ rr ∧ b ≠ rr
theorem DP.non {w W W' : World} {b rr : Nat} {r : RS} (h : DP w b rr r W) (u : Upd Non W W') : DP w b rr r W' := ⟨QBlk.upd u h.q id, RBlk.upd u h.rb id, Upd.call u h.up fun _ _ h => h, h.ok, h.lo⟩

theorem doesP_long (A : Option Addr) (n c : Nat) (h : 300 < n) (w : World) :
    Calls Try.prog 13 #[.slice A n c] w fun e w' => e = .returned (.bool true) ∧ Upd Non w w' := by
  have h3 : (300 : Int) < n := by omega
  clear h
  go_enter Try.func13, Try.ntmps13
  go_wp2_with (go_at_call 28; refine (awake_spec _).mono ?_; rintro e w1 ⟨rfl, hU1⟩)
  go_ret
  exact ⟨rfl, by ((with_reducible repeat' first | exact Upd.refl _ _ | apply Upd.drew | apply Upd.drewN | apply Upd.alloc | refine Upd.setCell ?_ ?_ | refine Upd.call hU1 ?_ ?_) <;> first | (intro _ _ h; exact h) | (intro _ _ h; exact h.elim) | (intro i h1 h2; exfalso; (try simp only at h2); omega) | (left; rfl) | (right; dsimp only; omega) | (right; omega))⟩

set_option maxRecDepth 100000 in
set_option maxHeartbeats 16000000 in
theorem doesP_some (A : Option Addr) (N cc : Nat) (H K : Nat → Int) (h2 : N ≤ 300) (w : World)
    (hd : 0 < N → ∃ b o, A = some ⟨b, o, none⟩ ∧ ∀ j, j < N → w.cell? ⟨b, o + j * 2, none⟩ = some (.int .i64 (H j)) ∧ w.cell? ⟨b, o + j * 2 + 1, none⟩ = some (.int .i64 (K j))) :
    Calls Try.prog 13 #[.slice A N cc] w fun e w' => e = .returned (.bool true) ∧ Upd Non w w' := by
  have k0 : ¬ (300 : Int) < N := by omega
  have HD := Lib.hid hd
  clear hd
  go_enter Try.func13, Try.ntmps13
  go_wp2_with fail
  refine (new_spec _).mono ?_
  rintro e w2 ⟨rfl, hw2⟩
  obtain ⟨b, hbb⟩ : ∃ b, b = w.heap.size := ⟨_, rfl⟩
  rw [← hbb]
  have HB2 := Lib.hid (show QBlk w2 b QS.fresh by rw [hw2]; exact Blk.newAt hbb)
  have HU2 := Lib.hid (show Upd Non w w2 by rw [hw2]; exact (Upd.refl _ _).alloc)
  have hbw : w.heap.size ≤ b := by omega
  clear hw2 hbb
  go_wp2_with fail
  obtain ⟨rr, hrr⟩ : ∃ x, x = w2.heap.size := ⟨_, rfl⟩
  have HT := Lib.hid (show DP w b rr RS.fresh (w2.alloc (.cells RS.fresh.enc 111)) from
    ⟨QBlk.upd (S := Non) (by ((with_reducible repeat' first | exact Upd.refl _ _ | apply Upd.drew | apply Upd.drewN | apply Upd.alloc | refine Upd.setCell ?_ ?_) <;> first | (intro _ _ h; exact h) | (intro _ _ h; exact h.elim) | (intro i h1 h2; exfalso; (try simp only at h2); omega) | (left; rfl) | (right; dsimp only; omega) | (right; omega))) HB2.out id, Blk.newAt hrr, HU2.out.alloc, RS.Ok.fresh, hbw, by have := HU2.out.size; omega, by have := HB2.out.blk.lt; omega⟩)
  rw [← hrr]
  have hWs : w2.alloc (.cells RS.fresh.enc 111) = w2.alloc (.cells RS.fresh.enc 111) := rfl
  clear hrr HB2 HU2 hWs
  go_loopw [3, 5] (fun p i wr => ∃ (t b : Nat) (r : RS), t ≤ N ∧ p = .pointer (some ⟨b, 0, none⟩) ∧ i = .int .i64 t ∧ DP w b rr r wr) (fun _ i _ => N - (intOf i).toNat)
  case atStart => exact ⟨0, b, RS.fresh, Nat.zero_le _, rfl, rfl, HT.out⟩
  case round =>
    clear HT hbw
    obtain ⟨t, b, r, ht, rfl, rfl, hT⟩ := hrel
    have HT := Lib.hid hT
    clear hT
    by_cases hlt : t < N
    case neg =>
      have k1 : ¬ (t : Int) < N := by omega
      go_wp2_with fail
      refine (sameP HT.out.ok _ HT.out.q HT.out.rb).mono ?_
      rintro e w3 ⟨rfl, U⟩
      have HU3 := Lib.hid (by have h := HT.out.up; ((with_reducible repeat' first | exact Upd.refl _ _ | apply Upd.drew | apply Upd.drewN | apply Upd.alloc | refine Upd.setCell ?_ ?_ | refine Upd.call U ?_ ?_ | refine Upd.call h ?_ ?_) <;> first | (intro _ _ h; exact h) | (intro _ _ h; exact h.elim) | (intro i h1 h2; exfalso; (try simp only at h2); omega) | (left; rfl) | (right; dsimp only; omega) | (right; omega)) : Upd Non w w3)
      clear U
      go_wp2_with fail
      refine (awake_spec _).mono ?_
      rintro e w4 ⟨rfl, U⟩
      go_wp2_with fail
      go_ret
      exact ⟨rfl, by have h := HU3.out; ((with_reducible repeat' first | exact Upd.refl _ _ | apply Upd.drew | apply Upd.drewN | apply Upd.alloc | refine Upd.setCell ?_ ?_ | refine Upd.call U ?_ ?_ | refine Upd.call h ?_ ?_) <;> first | (intro _ _ h; exact h) | (intro _ _ h; exact h.elim) | (intro i h1 h2; exfalso; (try simp only at h2); omega) | (left; rfl) | (right; dsimp only; omega) | (right; omega))⟩
    have k1 : (t : Int) < N := by omega
    obtain ⟨ba, o, rfl, hcells⟩ := HD.out (by omega)
    obtain ⟨ce0, ce1⟩ := hcells t hlt
    have CE := Lib.hid (And.intro ce0 ce1)
    have d0 := HT.out.up.cell_eq id CE.out.1
    have d1 := HT.out.up.cell_eq id CE.out.2
    obtain ⟨kk, hkk⟩ : ∃ x, x = K t := ⟨_, rfl⟩
    rw [← hkk] at d1
    clear hcells ce0 ce1 HD CE hkk
    go_wp2_with fail
    refine (pick_spec (H t) 4 (by decide) (by decide) _).mono ?_
    rintro e w3 ⟨rfl, rfl⟩
    obtain ⟨hh, hhe⟩ : ∃ x, x = H t % 4 := ⟨_, rfl⟩
    have hh4 : 0 ≤ hh ∧ hh < 4 := by omega
    rw [← hhe]
    clear hhe d0 d1
    go_upto_block 2 with fail
    go_cut [3] (fun p wx => ∃ (b : Nat) (r : RS), p = .pointer (some ⟨b, 0, none⟩) ∧ DP w b rr r wx)
    case first =>
      have hlo := HT.out.lo
      have k6 : IntKind.i64.wrap ((t : Int) + 1) = (t : Int) + 1 := IntWalk.i64_in _ (by omega)
      by_cases h0 : hh = 0
      · subst h0
        have z1 : (r.qs.putE kk != r.qs.putE kk) = false := by simp
        go_wp2_with fail
        refine (ask_next t _).mono ?_
        rintro e w4 ⟨rfl, U⟩
        have HT4 := Lib.hid (HT.out.non U)
        clear U HT
        go_wp2_with fail
        refine (put_any r.qs b kk (AK.of (t + 1)) _ HT4.out.q).mono ?_
        rintro e w5 ⟨rfl, hq5, U⟩
        have HR5 := Lib.hid (RBlk.upd U HT4.out.rb (fun e => hlo.2.2 e.symm))
        have HU5 := Lib.hid (by have h := HT4.out.up; ((with_reducible repeat' first | exact Upd.refl _ _ | apply Upd.drew | apply Upd.drewN | apply Upd.alloc | refine Upd.setCell ?_ ?_ | refine Upd.call U ?_ ?_ | refine Upd.call h ?_ ?_) <;> first | (intro _ _ h; exact h) | (intro _ _ h; exact h.elim) | (intro i h1 h2; exfalso; (try simp only at h2); omega) | (left; rfl) | (right; dsimp only; omega) | (right; omega)) : Upd Non w w5)
        have HQ5 := Lib.hid hq5
        clear U hq5
        go_wp2_with fail
        refine (rput_next r rr kk t _ HR5.out).mono ?_
        rintro e w6 ⟨rfl, hr6, U⟩
        have HT6 := Lib.hid (show DP w b rr (r.put kk (t + 1)) w6 from ⟨by rw [RS.put_qs r kk (t + 1) (by omega)]; exact QBlk.upd U HQ5.out (fun e => hlo.2.2 e), hr6, (by have h := HU5.out; ((with_reducible repeat' first | exact Upd.refl _ _ | apply Upd.drew | apply Upd.drewN | apply Upd.alloc | refine Upd.setCell ?_ ?_ | refine Upd.call U ?_ ?_ | refine Upd.call h ?_ ?_) <;> first | (intro _ _ h; exact h) | (intro _ _ h; exact h.elim) | (intro i h1 h2; exfalso; (try simp only at h2); omega) | (left; rfl) | (right; dsimp only; omega) | (right; omega))), RS.put_ok HT4.out.ok kk (t + 1) (by omega), hlo⟩)
        clear U hr6 HR5 HU5 HQ5 HT4
        go_wp2_with fail
        go_meet
        exact ⟨b, _, rfl, HT6.out⟩
      by_cases h1 : hh = 1
      · subst h1
        go_wp2_with fail
        refine (take_any r.qs b kk _ HT.out.q).mono ?_
        rintro e w4 ⟨rfl, hq4, U⟩
        have HR4 := Lib.hid (RBlk.upd U HT.out.rb (fun e => hlo.2.2 e.symm))
        have HU4 := Lib.hid (by have h := HT.out.up; ((with_reducible repeat' first | exact Upd.refl _ _ | apply Upd.drew | apply Upd.drewN | apply Upd.alloc | refine Upd.setCell ?_ ?_ | refine Upd.call U ?_ ?_ | refine Upd.call h ?_ ?_) <;> first | (intro _ _ h; exact h) | (intro _ _ h; exact h.elim) | (intro i h1 h2; exfalso; (try simp only at h2); omega) | (left; rfl) | (right; dsimp only; omega) | (right; omega)) : Upd Non w w4)
        have HQ4 := Lib.hid hq4
        have HOK := Lib.hid HT.out.ok
        clear U hq4 HT
        rcases RS.take_is r kk with ⟨e1, e2, e3⟩ | ⟨e1, e2, e3⟩
        · rw [e1, e3]
          have HE2 := Lib.hid e2
          clear e1 e2 e3
          go_upto_region 14 with (refine wpList_store_row rfl 55 _ _ rfl w4.heap.size AK.no.enc rfl rfl 55 AK.no.enc (heap_alloc_new w4 _) (by kernel_rfl) rfl (AK.enc_one _) ?_; rw [World.setRow_alloc_new])
          have hU5 : Upd Non w4 (w4.alloc (.cells AK.no.enc 55)) := by ((with_reducible repeat' first | exact Upd.refl _ _ | apply Upd.drew | apply Upd.drewN | apply Upd.alloc | refine Upd.setCell ?_ ?_) <;> first | (intro _ _ h; exact h) | (intro _ _ h; exact h.elim) | (intro i h1 h2; exfalso; (try simp only at h2); omega) | (left; rfl) | (right; dsimp only; omega) | (right; omega))
          obtain ⟨w5, hw5⟩ : ∃ x, x = w4.alloc (.cells AK.no.enc 55) := ⟨_, rfl⟩
          obtain ⟨b7, hb7⟩ : ∃ x, x = w4.heap.size := ⟨_, rfl⟩
          rw [← hw5, ← hb7]
          rw [← hw5] at hU5
          have HQ5 := Lib.hid (QBlk.upd hU5 HQ4.out id)
          have HR5 := Lib.hid (RBlk.upd hU5 HR4.out id)
          have HU5 := Lib.hid (by have h := HU4.out; ((with_reducible repeat' first | exact Upd.refl _ _ | apply Upd.drew | apply Upd.drewN | apply Upd.alloc | refine Upd.setCell ?_ ?_ | refine Upd.call hU5 ?_ ?_ | refine Upd.call h ?_ ?_) <;> first | (intro _ _ h; exact h) | (intro _ _ h; exact h.elim) | (intro i h1 h2; exfalso; (try simp only at h2); omega) | (left; rfl) | (right; dsimp only; omega) | (right; omega)) : Upd Non w w5)
          clear hw5 hb7 hU5 HQ4 HR4 HU4
          go_wp2_with fail
          refine (rtakep_any r HOK.out rr kk _ HR5.out).mono ?_
          rintro e w6 ⟨rfl, hr6, U⟩
          rw [HE2.out]
          have HT6 := Lib.hid (show DP w b rr (r.take kk) w6 from ⟨by rw [RS.take_qs]; exact QBlk.upd U HQ5.out (fun e => hlo.2.2 e), hr6, (by have h := HU5.out; ((with_reducible repeat' first | exact Upd.refl _ _ | apply Upd.drew | apply Upd.drewN | apply Upd.alloc | refine Upd.setCell ?_ ?_ | refine Upd.call U ?_ ?_ | refine Upd.call h ?_ ?_) <;> first | (intro _ _ h; exact h) | (intro _ _ h; exact h.elim) | (intro i h1 h2; exfalso; (try simp only at h2); omega) | (left; rfl) | (right; dsimp only; omega) | (right; omega))), RS.take_ok HOK.out kk, hlo⟩)
          clear U hr6 HR5 HU5 HQ5
          go_wp2_with fail
          refine wp_region_grow (by kernel_rfl) (by kernel_rfl) ?_
          (try dsimp only [Act.put])
          repeat (go_big_quiet_step (fail))
          refine wpQuiet_nil ?_
          rintro ⟨w7, hU7⟩
          show Exit.then _ _ _ _ w7
          have HT7 := Lib.hid (HT6.out.non hU7)
          clear hU7 HT6
          go_wp2_with fail
          go_meet
          exact ⟨b, _, rfl, HT7.out⟩
        · rw [e1, e3]
          obtain ⟨n, hn⟩ : ∃ n, n = r.takeN kk := ⟨_, rfl⟩
          rw [← hn] at e2 ⊢
          have HE2 := Lib.hid hn
          clear e1 e3 hn
          go_upto_region 14 with (refine wpList_store_row rfl 55 _ _ rfl w4.heap.size (AK.of n).enc rfl rfl 55 AK.no.enc (heap_alloc_new w4 _) (by kernel_rfl) rfl (AK.enc_one _) ?_; rw [World.setRow_alloc_new])
          have hU5 : Upd Non w4 (w4.alloc (.cells (AK.of n).enc 55)) := by ((with_reducible repeat' first | exact Upd.refl _ _ | apply Upd.drew | apply Upd.drewN | apply Upd.alloc | refine Upd.setCell ?_ ?_) <;> first | (intro _ _ h; exact h) | (intro _ _ h; exact h.elim) | (intro i h1 h2; exfalso; (try simp only at h2); omega) | (left; rfl) | (right; dsimp only; omega) | (right; omega))
          obtain ⟨w5, hw5⟩ : ∃ x, x = w4.alloc (.cells (AK.of n).enc 55) := ⟨_, rfl⟩
          obtain ⟨b7, hb7⟩ : ∃ x, x = w4.heap.size := ⟨_, rfl⟩
          have hX5 : Blk w5 b7 (AK.of n).enc 55 := by rw [hw5]; exact Blk.newAt hb7
          rw [← hw5, ← hb7]
          rw [← hw5] at hU5
          have HQ5 := Lib.hid (QBlk.upd hU5 HQ4.out id)
          have HR5 := Lib.hid (RBlk.upd hU5 HR4.out id)
          have HU5 := Lib.hid (by have h := HU4.out; ((with_reducible repeat' first | exact Upd.refl _ _ | apply Upd.drew | apply Upd.drewN | apply Upd.alloc | refine Upd.setCell ?_ ?_ | refine Upd.call hU5 ?_ ?_ | refine Upd.call h ?_ ?_) <;> first | (intro _ _ h; exact h) | (intro _ _ h; exact h.elim) | (intro i h1 h2; exfalso; (try simp only at h2); omega) | (left; rfl) | (right; dsimp only; omega) | (right; omega)) : Upd Non w w5)
          have h7 : b7 ≠ rr := by have := HR4.out.blk.lt; omega
          have HX5 := Lib.hid hX5
          clear hw5 hb7 hU5 HQ4 HR4 HU4 hX5
          go_wp2_with fail
          refine (rtakep_any r HOK.out rr kk _ HR5.out).mono ?_
          rintro e w6 ⟨rfl, hr6, U⟩
          rw [← HE2.out]
          have HT6 := Lib.hid (show DP w b rr (r.take kk) w6 from ⟨by rw [RS.take_qs]; exact QBlk.upd U HQ5.out (fun e => hlo.2.2 e), hr6, (by have h := HU5.out; ((with_reducible repeat' first | exact Upd.refl _ _ | apply Upd.drew | apply Upd.drewN | apply Upd.alloc | refine Upd.setCell ?_ ?_ | refine Upd.call U ?_ ?_ | refine Upd.call h ?_ ?_) <;> first | (intro _ _ h; exact h) | (intro _ _ h; exact h.elim) | (intro i h1 h2; exfalso; (try simp only at h2); omega) | (left; rfl) | (right; dsimp only; omega) | (right; omega))), RS.take_ok HOK.out kk, hlo⟩)
          have HX6 := Lib.hid (Blk.upd U HX5.out h7)
          clear U hr6 HR5 HU5 HQ5 HX5
          have hn1 : (0 : Int) < n := by omega
          have hn2 : decide ((0 : Int) < (n : Int)) = true := decide_eq_true hn1
          have hn3 : decide (0 < n) = true := decide_eq_true (by omega)
          go_wp2_with fail
          refine wp_region_grow (by kernel_rfl) (by kernel_rfl) ?_
          (try dsimp only [Act.put])
          repeat (first
            | (go_big_quiet_want; refine quiet_row 55 _ rfl b7 rfl (AK.of n).enc 55 _ HX6.out Try.underlying55 rfl (by kernel_rfl) ?_; go_simp; go_big_quiet_on)
            | (go_big_quiet_want; refine quiet_eq .neq 55 55 _ _ rfl (AK.of n).enc (AK.of n).enc (.bool false) rfl rfl Try.eqGuardType55 (fun w => ask_ne (AK.of n) w) ?_; go_simp; go_big_quiet_on)
            | go_big_quiet_step ((first | (go_at_call 32; exact Grown.call (ask_spec n _)))))
          refine wpQuiet_nil ?_
          rintro ⟨w7, hU7⟩
          show Exit.then _ _ _ _ w7
          have HT7 := Lib.hid (HT6.out.non hU7)
          clear hU7 HT6 HX6
          go_wp2_with fail
          go_meet
          exact ⟨b, _, rfl, HT7.out⟩
      by_cases h3 : hh = 2
      · subst h3
        have z1 : (r.qs.backE kk != r.qs.backE kk) = false := by simp
        go_wp2_with fail
        refine (back_any r.qs b kk _ HT.out.q).mono ?_
        rintro e w4 ⟨rfl, hq4, U⟩
        have HR4 := Lib.hid (RBlk.upd U HT.out.rb (fun e => hlo.2.2 e.symm))
        have HU4 := Lib.hid (by have h := HT.out.up; ((with_reducible repeat' first | exact Upd.refl _ _ | apply Upd.drew | apply Upd.drewN | apply Upd.alloc | refine Upd.setCell ?_ ?_ | refine Upd.call U ?_ ?_ | refine Upd.call h ?_ ?_) <;> first | (intro _ _ h; exact h) | (intro _ _ h; exact h.elim) | (intro i h1 h2; exfalso; (try simp only at h2); omega) | (left; rfl) | (right; dsimp only; omega) | (right; omega)) : Upd Non w w4)
        have HQ4 := Lib.hid hq4
        have HOK := Lib.hid HT.out.ok
        clear U hq4 HT
        go_wp2_with fail
        refine (rbackp_any r HOK.out rr kk _ HR4.out).mono ?_
        rintro e w6 ⟨rfl, hr6, U⟩
        have HT6 := Lib.hid (show DP w b rr (r.back kk) w6 from ⟨by rw [RS.back_qs HOK.out]; exact QBlk.upd U HQ4.out (fun e => hlo.2.2 e), hr6, (by have h := HU4.out; ((with_reducible repeat' first | exact Upd.refl _ _ | apply Upd.drew | apply Upd.drewN | apply Upd.alloc | refine Upd.setCell ?_ ?_ | refine Upd.call U ?_ ?_ | refine Upd.call h ?_ ?_) <;> first | (intro _ _ h; exact h) | (intro _ _ h; exact h.elim) | (intro i h1 h2; exfalso; (try simp only at h2); omega) | (left; rfl) | (right; dsimp only; omega) | (right; omega))), RS.back_ok HOK.out kk, hlo⟩)
        clear U hr6 HR4 HU4 HQ4
        go_wp2_with fail
        go_meet
        exact ⟨b, _, rfl, HT6.out⟩
      obtain rfl : hh = 3 := by omega
      go_wp2_with fail
      refine (copy_port r.qs b _ HT.out.q).mono ?_
      rintro e w4 ⟨rfl, hc, U⟩
      obtain ⟨c, hcc⟩ : ∃ x, x = wr.heap.size := ⟨_, rfl⟩
      rw [← hcc] at hc ⊢
      have HC4 := Lib.hid hc
      have HT4 := Lib.hid (HT.out.non U)
      have hcb : b < c ∧ rr < c ∧ w.heap.size ≤ c := by have := HT.out.q.blk.lt; have := HT.out.rb.blk.lt; have := HT.out.up.size; omega
      clear hc U hcc HT
      go_wp2_with fail
      refine (ask_next t _).mono ?_
      rintro e w5 ⟨rfl, U⟩
      have HC5 := Lib.hid (QBlk.upd U HC4.out id)
      have HT5 := Lib.hid (HT4.out.non U)
      clear U HC4 HT4
      go_wp2_with fail
      refine (put_any r.qs b kk (AK.of (t + 1)) _ HT5.out.q).mono ?_
      rintro e w6 ⟨rfl, hq, U⟩
      have HR6 := Lib.hid (RBlk.upd U HT5.out.rb (fun e => hlo.2.2 e.symm))
      have HU6 := Lib.hid (by have h := HT5.out.up; ((with_reducible repeat' first | exact Upd.refl _ _ | apply Upd.drew | apply Upd.drewN | apply Upd.alloc | refine Upd.setCell ?_ ?_ | refine Upd.call U ?_ ?_ | refine Upd.call h ?_ ?_) <;> first | (intro _ _ h; exact h) | (intro _ _ h; exact h.elim) | (intro i h1 h2; exfalso; (try simp only at h2); omega) | (left; rfl) | (right; dsimp only; omega) | (right; omega)) : Upd Non w w6)
      have HQ6 := Lib.hid hq
      have HC6 := Lib.hid (QBlk.upd U HC5.out (by omega))
      have HOK := Lib.hid HT5.out.ok
      clear U hq HC5 HT5
      go_wp2_with fail
      refine (take_any _ b kk _ HQ6.out).mono ?_
      rintro e w7 ⟨rfl, hq, U⟩
      have HR7 := Lib.hid (RBlk.upd U HR6.out (fun e => hlo.2.2 e.symm))
      have HU7 := Lib.hid (by have h := HU6.out; ((with_reducible repeat' first | exact Upd.refl _ _ | apply Upd.drew | apply Upd.drewN | apply Upd.alloc | refine Upd.setCell ?_ ?_ | refine Upd.call U ?_ ?_ | refine Upd.call h ?_ ?_) <;> first | (intro _ _ h; exact h) | (intro _ _ h; exact h.elim) | (intro i h1 h2; exfalso; (try simp only at h2); omega) | (left; rfl) | (right; dsimp only; omega) | (right; omega)) : Upd Non w w7)
      have HQ7 := Lib.hid hq
      have HC7 := Lib.hid (QBlk.upd U HC6.out (by omega))
      clear U hq HC6 HR6 HU6 HQ6
      go_wp2_with fail
      refine (back_any _ b kk _ HQ7.out).mono ?_
      rintro e w8 ⟨rfl, hq, U⟩
      have HR8 := Lib.hid (RBlk.upd U HR7.out (fun e => hlo.2.2 e.symm))
      have HU8 := Lib.hid (by have h := HU7.out; ((with_reducible repeat' first | exact Upd.refl _ _ | apply Upd.drew | apply Upd.drewN | apply Upd.alloc | refine Upd.setCell ?_ ?_ | refine Upd.call U ?_ ?_ | refine Upd.call h ?_ ?_) <;> first | (intro _ _ h; exact h) | (intro _ _ h; exact h.elim) | (intro i h1 h2; exfalso; (try simp only at h2); omega) | (left; rfl) | (right; dsimp only; omega) | (right; omega)) : Upd Non w w8)
      have HQ8 := Lib.hid hq
      have HC8 := Lib.hid (QBlk.upd U HC7.out (by omega))
      clear U hq HC7 HR7 HU7 HQ7
      go_wp2_with fail
      refine (ask_7 _).mono ?_
      rintro e w9 ⟨rfl, U⟩
      have HR9 := Lib.hid (RBlk.upd U HR8.out id)
      have HU9 := Lib.hid (by have h := HU8.out; ((with_reducible repeat' first | exact Upd.refl _ _ | apply Upd.drew | apply Upd.drewN | apply Upd.alloc | refine Upd.setCell ?_ ?_ | refine Upd.call U ?_ ?_ | refine Upd.call h ?_ ?_) <;> first | (intro _ _ h; exact h) | (intro _ _ h; exact h.elim) | (intro i h1 h2; exfalso; (try simp only at h2); omega) | (left; rfl) | (right; dsimp only; omega) | (right; omega)) : Upd Non w w9)
      have HQ9 := Lib.hid (QBlk.upd U HQ8.out id)
      have HC9 := Lib.hid (QBlk.upd U HC8.out id)
      clear U HC8 HR8 HU8 HQ8
      go_wp2_with fail
      refine (put_0 _ b (AK.of 7) _ HQ9.out).mono ?_
      rintro e w10 ⟨rfl, hq, U⟩
      have HT10 := Lib.hid (show DP w c rr r w10 from ⟨QBlk.upd U HC9.out (by omega), RBlk.upd U HR9.out (fun e => hlo.2.2 e.symm), (by have h := HU9.out; ((with_reducible repeat' first | exact Upd.refl _ _ | apply Upd.drew | apply Upd.drewN | apply Upd.alloc | refine Upd.setCell ?_ ?_ | refine Upd.call U ?_ ?_ | refine Upd.call h ?_ ?_) <;> first | (intro _ _ h; exact h) | (intro _ _ h; exact h.elim) | (intro i h1 h2; exfalso; (try simp only at h2); omega) | (left; rfl) | (right; dsimp only; omega) | (right; omega))), HOK.out, by omega⟩)
      clear U hq HC9 HR9 HU9 HQ9
      go_wp2_with fail
      go_meet
      exact ⟨c, r, rfl, HT10.out⟩
    case rest =>
      obtain ⟨b2, r2, rfl, hT⟩ := hcut
      have HT2 := Lib.hid hT
      clear hT HT hh4
      go_wp2_with fail
      refine (sameP HT2.out.ok _ HT2.out.q HT2.out.rb).mono ?_
      rintro e w4 ⟨rfl, U⟩
      have HT4 := Lib.hid (HT2.out.non U)
      clear U HT2
      go_wp2_with fail
      go_roundw
      case rel => exact ⟨t + 1, b2, r2, by omega, rfl, by go_num, HT4.out⟩
      case measure => simp [intOf]; omega

theorem doesP_law (A : Option Addr) (N cc : Nat) (H K : Nat → Int) (w : World)
    (hd : 0 < N → ∃ b o, A = some ⟨b, o, none⟩ ∧ ∀ j, j < N → w.cell? ⟨b, o + j * 2, none⟩ = some (.int .i64 (H j)) ∧ w.cell? ⟨b, o + j * 2 + 1, none⟩ = some (.int .i64 (K j))) :
    Calls Try.prog 13 #[.slice A N cc] w fun e w' => e = .returned (.bool true) ∧ Upd Non w w' := by
  by_cases h : 300 < N
  · exact doesP_long A N cc h w
  · exact doesP_some A N cc H K (by omega) w hd
end Go.Proofs.Ytmblplhehbdocaa
