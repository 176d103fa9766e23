/- Contracts of the fifo's Take, grow and Put. Conditions: the fifo's blocks are known whole, its state is a sound one. -/
import Derived.Test.YtmblplhehbdocaaFifoFns
import Derived.Deep.DeepCutAuto
namespace Go.Proofs.Ytmblplhehbdocaa
open Go.RowKit

theorem place_one (s : FS) (b x : Nat) (ok : s.ok) (hL : 0 < s.L) (hx : (s.fst + 1) % s.L = x) (w : World) (hb : FBlk w b s) :
    Calls Try.prog 67 #[.pointer (some ⟨b, 0, none⟩), .int .i64 1] w fun e w' => e = .returned (.int .i64 x) ∧ ∃ k, w' = w.drewN k := place_spec s b 1 x ok hL hL hx w hb
def FS.take (s : FS) : FS := { s with fst := (s.fst + 1) % s.L, xs := s.xs.tail }
theorem FS.take_ok {s : FS} (ok : s.ok) (hL : 0 < s.L) : s.take.ok := by
  refine ⟨fun h => Nat.mod_lt _ h, fun h => absurd hL (by show ¬ 0 < s.L; have : s.L = 0 := h; omega), ?_, ok.lm, ok.l5, ?_, ok.mm⟩
  · show s.xs.tail.length ≤ s.L
    have := ok.le
    rw [List.length_tail]; omega
  · intro j v hv
    have hv' : s.xs.tail[j]? = some v := hv
    rw [List.getElem?_tail] at hv'
    show s.row (((s.fst + 1) % s.L + j) % s.L) = v
    rw [Nat.mod_add_mod, show s.fst + 1 + j = s.fst + (j + 1) by omega]
    exact ok.row (j + 1) v hv'
theorem take_no05 (s : FS) (b : Nat) (ok : s.ok) (hx : s.xs = []) (w : World) (hb : FBlk w b s) :
    Calls Try.prog 27 #[.pointer (some ⟨b, 0, none⟩)] w fun e w' => e = .returned (.tuple #[.int .i64 0, .bool false]) ∧ ∃ k, w' = w.drewN k := by
  have HB := Lib.hid hb
  have H1 := Lib.hid (show headI s.xs = 0 by rw [hx]; rfl)
  have H2 := Lib.hid (show someI s.xs = false by rw [hx]; rfl)
  clear hb hx
  go_enter Try.func27, Try.ntmps27
  go_wp2_with fail
  refine (first_spec s b ok _ HB.out).mono ?_
  rintro e w1 ⟨rfl, k, rfl⟩
  rw [H1.out, H2.out]
  go_wp2
  go_ret2
  exact ⟨rfl, _, rfl⟩
theorem FBlk.took {w : World} {b x n : Nat} {s : FS} (h : FBlk w b s) (hx : (s.fst + 1) % s.L = x) (hn : s.take.xs.length = n) :
    FBlk ((w.setCell ⟨b, 1, none⟩ (.int .i64 x)).setCell ⟨b, 2, none⟩ (.int .i64 n)) b s.take := by
  refine ⟨?_, fun hL => ⟨Blk.set_ne (Blk.set_ne (h.2 hL).1 (h.2 hL).2) (h.2 hL).2, (h.2 hL).2⟩⟩
  refine Blk.eq (Blk.set (Blk.set h.1)) ?_
  rw [← hx, ← hn]
  rfl
set_option maxHeartbeats 4000000 in
theorem take_some05 (s : FS) (b : Nat) (v : Int) (l : List Int) (ok : s.ok) (hx : s.xs = v :: l) (w : World) (hb : FBlk w b s) :
    Calls Try.prog 27 #[.pointer (some ⟨b, 0, none⟩)] w fun e w' => e = .returned (.tuple #[.int .i64 v, .bool true]) ∧ FBlk w' b s.take ∧ Upd (fun i => i = b) w w' := by
  have HB := Lib.hid hb
  have H1 := Lib.hid (show headI s.xs = v by rw [hx]; rfl)
  have H2 := Lib.hid (show someI s.xs = true by rw [hx]; rfl)
  have hle := ok.le
  have hlen : s.xs.length = l.length + 1 := by rw [hx]; rfl
  have hL : 0 < s.L := by omega
  have h5 := ok.l5
  obtain ⟨m, hm⟩ : ∃ m, m = s.xs.length := ⟨_, rfl⟩
  obtain ⟨n, hn⟩ : ∃ n, n = l.length := ⟨_, rfl⟩
  have HT := Lib.hid (show s.take.xs.length = n by rw [hn]; show s.xs.tail.length = _; rw [hx]; rfl)
  obtain ⟨x, hx1⟩ : ∃ x, (s.fst + 1) % s.L = x := ⟨_, rfl⟩
  have HX := Lib.hid hx1
  have c2 := hb.c2
  rw [← hm] at c2
  have c1 := hb.c1
  have f1 := hb.1.frozen 1
  have f2 := hb.1.frozen 2
  have g1 : IntKind.i64.wrap ((m : Int) - 1) = (n : Int) := by rw [show (m : Int) - 1 = (n : Int) by omega]; exact IntWalk.i64_in _ (by omega)
  clear hb hx hx1 hlen hm hn
  go_enter Try.func27, Try.ntmps27
  go_wp2_with fail
  refine (first_spec s b ok _ HB.out).mono ?_
  rintro e w1 ⟨rfl, k, rfl⟩
  rw [H1.out, H2.out]
  go_wp2_with fail
  go_region_with (go_at_call 67; refine (place_one s b x ok hL HX.out _ HB.out.drewN).mono ?_; rintro e w3 ⟨rfl, k3, rfl⟩)
  all_goals
    go_wp2_with fail
    go_ret2
    exact ⟨rfl, FBlk.took HB.out.drewN HX.out HT.out, by ((with_reducible repeat' first | exact Upd.refl _ _ | apply Upd.drew | apply Upd.drewN | apply Upd.alloc | refine Upd.setCell ?_ ?_) <;> first | (intro _ _ h; exact h) | (intro _ _ h; exact h.elim) | (intro i h1 h2; exfalso; (try simp only at h2); omega) | (left; rfl) | (right; dsimp only; omega) | (right; omega))⟩
def newLen (L most : Nat) : Nat := min (max (2 * L) 4) most
def FS.grown (s : FS) (g : Nat) : FS := { s with g := g, L := newLen s.L s.most, fst := 0, row := fun i => s.xs.getD i 0 }
theorem FS.grown_ok {s : FS} (ok : s.ok) (hm : s.L < s.most) (h2 : s.L ≤ 2000) (g : Nat) : (s.grown g).ok := by
  have hle := ok.le
  have hn : s.L < newLen s.L s.most := by unfold newLen; omega
  have hn2 : newLen s.L s.most ≤ 4000 := by unfold newLen; omega
  refine ⟨fun h => h, fun _ => rfl, ?_, ?_, ?_, ?_, ok.mm⟩
  · show s.xs.length ≤ newLen s.L s.most; omega
  · show newLen s.L s.most ≤ s.most; unfold newLen; omega
  · show newLen s.L s.most ≤ 5000; omega
  · intro j v hv
    have hv' : s.xs[j]? = some v := hv
    have hj := (List.getElem?_eq_some_iff.1 hv').1
    show s.xs.getD ((0 + j) % newLen s.L s.most) 0 = v
    rw [Nat.zero_add, Nat.mod_eq_of_lt (by omega), List.getD_eq_getElem?_getD, hv']
    rfl
def grownRow (s : FS) (t : Nat) : Nat → Int := fun i => if i < t then s.xs.getD i 0 else 0
theorem grownRow_zero (s : FS) : grownRow s 0 = fun _ => 0 := by funext i; simp [grownRow]
theorem grownRow_succ (s : FS) (t : Nat) (v : Int) (hv : s.xs[t]? = some v) : updI (grownRow s t) t v = grownRow s (t + 1) := by
  funext i
  unfold updI grownRow
  by_cases h : i = t
  · subst h
    rw [if_pos rfl, if_pos (by omega), List.getD_eq_getElem?_getD, hv]; rfl
  · rw [if_neg h]
    by_cases h2 : i < t
    · rw [if_pos h2, if_pos (by omega)]
    · rw [if_neg h2, if_neg (by omega)]
theorem grownRow_end (s : FS) (t : Nat) (h : s.xs.length = t) : grownRow s t = fun i => s.xs.getD i 0 := by
  funext i
  unfold grownRow
  by_cases h2 : i < t
  · rw [if_pos h2]
  · rw [if_neg h2, List.getD_eq_getElem?_getD, List.getElem?_eq_none (by omega)]; rfl
theorem FBlk.grew {w : World} {b g : Nat} {s : FS} (h : Blk w b s.enc 123) (hf : s.xs.length = s.L) (hg : Blk w g (rowI (newLen s.L s.most) (grownRow s s.L)) 3) (hgb : g ≠ b) (hm : s.L < s.most) :
    FBlk ((w.setCell ⟨b, 0, none⟩ (.slice (some ⟨g, 0, none⟩) (newLen s.L s.most) (newLen s.L s.most))).setCell ⟨b, 1, none⟩ (.int .i64 0)) b (s.grown g) := by
  refine ⟨?_, fun _ => ⟨Blk.set_ne (Blk.set_ne ?_ hgb) hgb, hgb⟩⟩
  · refine Blk.eq (Blk.set (Blk.set h)) ?_
    have hn : 0 < (s.grown g).L := by show 0 < newLen s.L s.most; unfold newLen; omega
    unfold FS.enc
    rw [FS.sl_some hn]
    rfl
  · rw [grownRow_end s s.L hf] at hg
    exact hg
set_option maxRecDepth 100000 in
set_option maxHeartbeats 4000000 in
theorem grow_spec (s : FS) (b : Nat) (ok : s.ok) (hf : s.xs.length = s.L) (hm : s.L < s.most) (h2 : s.L ≤ 2000) (w : World) (hb : FBlk w b s) :
    Calls Try.prog 66 #[.pointer (some ⟨b, 0, none⟩), .int .i64 s.most] w fun e w' => e = .returned (.tuple #[]) ∧ FBlk w' b (s.grown w.heap.size) ∧ Upd (fun i => i = b) w w' := by
  have HB := Lib.hid hb
  have c0 := hb.c0
  have c2 := hb.c2
  rw [hf] at c2
  have HF := Lib.hid hf
  have hbw := hb.lt
  obtain ⟨n, hn⟩ : ∃ n, n = newLen s.L s.most := ⟨_, rfl⟩
  have HN := Lib.hid hn
  have hn1 : s.L < n ∧ n ≤ 4000 := by rw [hn]; unfold newLen; omega
  obtain ⟨hn1, hn2⟩ := hn1
  obtain ⟨L2, hL2⟩ : ∃ x, x = 2 * s.L := ⟨_, rfl⟩
  have g1 : IntKind.i64.wrap (2 * (s.L : Int)) = (L2 : Int) := by rw [hL2, show ((2 * s.L : Nat) : Int) = 2 * (s.L : Int) by omega]; exact IntWalk.i64_in _ (by omega)
  have hnn : (L2 < 4 ∧ ((s.most < 4 ∧ n = s.most) ∨ (¬ s.most < 4 ∧ n = 4))) ∨ (¬ L2 < 4 ∧ ((s.most < L2 ∧ n = s.most) ∨ (¬ s.most < L2 ∧ n = L2))) := by rw [hn]; unfold newLen; omega
  clear hf hb hn hL2
  go_enter Try.func66, Try.ntmps66
  go_upto_region 0 with fail
  go_cut [4] (fun v wx => v = .slice (some ⟨w.heap.size, 0, none⟩) n n ∧ wx = w.alloc (.cells (rowI n fun _ => 0) 3))
  case first =>
    have hcases : (s.L = 0 ∧ s.sl = .slice none 0 0) ∨ (0 < s.L ∧ s.sl = .slice (some ⟨s.g, 0, none⟩) s.L s.L) := by
      by_cases h : s.L = 0
      · exact .inl ⟨h, FS.sl_nil h⟩
      · exact .inr ⟨by omega, FS.sl_some (by omega)⟩
    rcases hcases with ⟨hL, hsl⟩ | ⟨hL, hsl⟩
    · rw [hsl] at c0
      have hq : (s.most < 4 ∧ n = s.most) ∨ (¬ s.most < 4 ∧ n = 4) := by rw [HN.out, hL]; unfold newLen; omega
      clear hsl hnn g1
      rcases hq with ⟨q2, q3⟩ | ⟨q2, q3⟩
      · have hn5 : s.most ≤ 4000 := by omega
        have z2 : (s.most : Int) < 4 := by omega
        have Q3 := Lib.hid q3
        clear q2 q3
        go_wp2_with (at_make; refine wpList_make_ints rfl _ _ 31 3 rfl Try.underlying31 (by kernel_rfl) s.most rfl rfl (by omega) ?_)
        go_meet
        exact ⟨by rw [Q3.out], by rw [Q3.out]⟩
      · have z2 : ¬ (s.most : Int) < 4 := by omega
        have Q3 := Lib.hid q3
        clear q2 q3
        go_wp2_with (at_make; refine wpList_make_ints rfl _ _ 31 3 rfl Try.underlying31 (by kernel_rfl) 4 rfl rfl (by omega) ?_)
        go_meet
        exact ⟨by rw [Q3.out], by rw [Q3.out]⟩
    · rw [hsl] at c0
      clear hsl
      rcases hnn with ⟨q1, ⟨q2, q3⟩ | ⟨q2, q3⟩⟩ | ⟨q1, ⟨q2, q3⟩ | ⟨q2, q3⟩⟩
      · have hn5 : s.most ≤ 4000 := by omega
        have z1 : (L2 : Int) < 4 := by omega
        have z2 : (s.most : Int) < 4 := by omega
        have Q3 := Lib.hid q3
        clear q1 q2 q3
        go_wp2_with (at_make; refine wpList_make_ints rfl _ _ 31 3 rfl Try.underlying31 (by kernel_rfl) s.most rfl rfl (by omega) ?_)
        go_meet
        exact ⟨by rw [Q3.out], by rw [Q3.out]⟩
      · have z1 : (L2 : Int) < 4 := by omega
        have z2 : ¬ (s.most : Int) < 4 := by omega
        have Q3 := Lib.hid q3
        clear q1 q2 q3
        go_wp2_with (at_make; refine wpList_make_ints rfl _ _ 31 3 rfl Try.underlying31 (by kernel_rfl) 4 rfl rfl (by omega) ?_)
        go_meet
        exact ⟨by rw [Q3.out], by rw [Q3.out]⟩
      · have hn5 : s.most ≤ 4000 := by omega
        have z1 : ¬ (L2 : Int) < 4 := by omega
        have z2 : (s.most : Int) < (L2 : Int) := by omega
        have Q3 := Lib.hid q3
        clear q1 q2 q3
        go_wp2_with (at_make; refine wpList_make_ints rfl _ _ 31 3 rfl Try.underlying31 (by kernel_rfl) s.most rfl rfl (by omega) ?_)
        go_meet
        exact ⟨by rw [Q3.out], by rw [Q3.out]⟩
      · have hn5 : L2 ≤ 4000 := by omega
        have z1 : ¬ (L2 : Int) < 4 := by omega
        have z2 : ¬ (s.most : Int) < (L2 : Int) := by omega
        have Q3 := Lib.hid q3
        clear q1 q2 q3
        go_wp2_with (at_make; refine wpList_make_ints rfl _ _ 31 3 rfl Try.underlying31 (by kernel_rfl) L2 rfl rfl (by omega) ?_)
        go_meet
        exact ⟨by rw [Q3.out], by rw [Q3.out]⟩
  case rest =>
    obtain ⟨rfl, rfl⟩ := hcut
    clear hnn g1
    obtain ⟨g, hg⟩ : ∃ x, x = w.heap.size := ⟨_, rfl⟩
    have HX := Lib.hid (show Blk (w.alloc (.cells (rowI n fun _ => 0) 3)) g (rowI n (grownRow s 0)) 3 by rw [grownRow_zero]; exact Blk.newAt hg)
    have HB1 := Lib.hid (FBlk.non (by ((with_reducible repeat' first | exact Upd.refl _ _ | apply Upd.drew | apply Upd.drewN | apply Upd.alloc | refine Upd.setCell ?_ ?_) <;> first | (intro _ _ h; exact h) | (intro _ _ h; exact h.elim) | (intro i h1 h2; exfalso; (try simp only at h2); omega) | (left; rfl) | (right; dsimp only; omega) | (right; omega)) : Upd Non w (w.alloc (.cells (rowI n fun _ => 0) 3))) HB.out)
    have HU1 := Lib.hid (by ((with_reducible repeat' first | exact Upd.refl _ _ | apply Upd.drew | apply Upd.drewN | apply Upd.alloc | refine Upd.setCell ?_ ?_) <;> first | (intro _ _ h; exact h) | (intro _ _ h; exact h.elim) | (intro i h1 h2; exfalso; (try simp only at h2); omega) | (left; rfl) | (right; dsimp only; omega) | (right; omega)) : Upd Non w (w.alloc (.cells (rowI n fun _ => 0) 3)))
    have hgb : g ≠ b := by omega
    have hgw : w.heap.size ≤ g := by omega
    rw [← hg]
    have HGG := Lib.hid hg
    clear hg c0
    go_wp2_with fail
    go_loopw [20] (fun i wr => ∃ t : Nat, t ≤ s.L ∧ i = .int .i64 t ∧ FBlk wr b s ∧ Blk wr g (rowI n (grownRow s t)) 3 ∧ Upd Non w wr) (fun i _ => s.L - (intOf i).toNat)
    case atStart => exact ⟨0, Nat.zero_le _, rfl, HB1.out, HX.out, HU1.out⟩
    case round =>
      clear HX HB1 HU1 c2
      obtain ⟨t, ht, rfl, hb, hX, hU⟩ := hrel
      have HB1 := Lib.hid hb
      have HX := Lib.hid hX
      have HU1 := Lib.hid hU
      have hbl := hb.lt
      have c0 := hb.c0
      have c1 := hb.c1
      have f0 := hb.1.frozen 0
      have f1 := hb.1.frozen 1
      clear hb hX hU
      by_cases hlt : t < s.L
      · have k1 : (t : Int) < s.L := by omega
        have hL : 0 < s.L := by omega
        rw [FS.sl_some hL] at c0
        obtain ⟨v, hv⟩ : ∃ v, s.xs[t]? = some v := ⟨_, List.getElem?_eq_getElem (by rw [HF.out]; exact hlt)⟩
        have HV := Lib.hid hv
        obtain ⟨x, hx⟩ : ∃ x, (s.fst + t) % s.L = x := ⟨_, rfl⟩
        have hxL : x < s.L := by rw [← hx]; exact Nat.mod_lt _ hL
        have c5 := (HB1.out.2 hL).1.cell x (rowI_at s.row hxL)
        rw [← hx, ok.row t v hv, hx] at c5
        have HXX := Lib.hid hx
        have b0 : (0 : Int) ≤ (x : Int) := by omega
        have b1 : (x : Int) < (s.L : Int) := by omega
        have b2 : (t : Int) < (n : Int) := by omega
        have c6 := HX.out.cell t (rowI_at (grownRow s t) (by omega))
        have f6 := HX.out.frozen t
        clear hv hx
        go_wp2_with fail
        go_region_with (go_at_call 67; refine (place_spec s b t x ok hL (by omega) HXX.out _ HB1.out.drew).mono ?_; rintro e w3 ⟨rfl, k3, rfl⟩)
        all_goals
          go_wp2_with fail
          go_roundw
          case rel =>
            refine ⟨t + 1, by omega, by go_num, ?_, ?_, ?_⟩
            · exact FBlk.upd (S := fun i => i = g) (by have h := Upd.refl (fun i => i = g) wr; ((with_reducible repeat' first | exact Upd.refl _ _ | apply Upd.drew | apply Upd.drewN | apply Upd.alloc | refine Upd.setCell ?_ ?_ | refine Upd.call h ?_ ?_) <;> first | (intro _ _ h; exact h) | (intro _ _ h; exact h.elim) | (intro i h1 h2; exfalso; (try simp only at h2); omega) | (left; rfl) | (right; dsimp only; omega) | (right; omega))) HB1.out (fun h => hgb h.symm) (fun _ h => by have := (HB.out.2 hL).1.lt; have h' : s.g = g := h; omega)
            · rw [← grownRow_succ s t v HV.out, ← rowI_set _ (by omega)]
              exact Blk.set (by have h := HX.out; ((with_reducible repeat' first | apply Blk.drew | apply Blk.drewN | apply Blk.alloc | apply Blk.set | refine Blk.set_ne ?_ ?_) <;> first | with_reducible exact h | omega | (dsimp only; omega)))
            · have h := HU1.out
              ((with_reducible repeat' first | exact Upd.refl _ _ | apply Upd.drew | apply Upd.drewN | apply Upd.alloc | refine Upd.setCell ?_ ?_ | refine Upd.call h ?_ ?_) <;> first | (intro _ _ h; exact h) | (intro _ _ h; exact h.elim) | (intro i h1 h2; exfalso; (try simp only at h2); omega) | (left; rfl) | (right; dsimp only; omega) | (right; omega))
          case measure => simp [intOf]; omega
      · have k1 : ¬ (t : Int) < s.L := by omega
        obtain rfl : t = s.L := by omega
        go_wp2_with fail
        go_end0
        refine ⟨rfl, ?_, by have h := (HU1.out).mono (T := fun i => i = b) (fun _ _ h => h.elim); ((with_reducible repeat' first | exact Upd.refl _ _ | apply Upd.drew | apply Upd.drewN | apply Upd.alloc | refine Upd.setCell ?_ ?_ | refine Upd.call h ?_ ?_) <;> first | (intro _ _ h; exact h) | (intro _ _ h; exact h.elim) | (intro i h1 h2; exfalso; (try simp only at h2); omega) | (left; rfl) | (right; dsimp only; omega) | (right; omega))⟩
        have hX := HX.out
        rw [HN.out] at hX ⊢
        rw [← HGG.out]
        exact FBlk.grew HB1.out.1 HF.out hX hgb hm
end Go.Proofs.Ytmblplhehbdocaa
