/- MailboxApart: the law's walk. Conditions: the row's cells are words. -/
import Derived.Test.YtlpfjjhjfmcfmaaMboxMore
namespace Go.Proofs.Ytlpfjjhjfmcfmaa
open Go.RowKit
theorem IRow.lower {w : World} {base base' r : Nat} {v : Value} {xs : List Int} (h : IRow w base v xs r) (hb : base' ≤ base) : IRow w base' v xs r := by
  refine ⟨⟨h.own.1, ?_⟩, h.blk, Nat.le_trans hb h.lo, h.lt⟩
  rcases h.own.2 with h1 | ⟨g, cap, cur, h1, h2, h3⟩
  · exact .inl h1
  · exact .inr ⟨g, cap, cur, h1, Nat.le_trans hb h2, h3⟩
/-- A row of words, as a statement's argument. -/
def WordsAt (w : World) (A : Option Addr) (n : Nat) (X : Nat → Int) : Prop := (0 < n → ∃ b o, A = some ⟨b, o, none⟩ ∧ ∀ j, j < n → w.cell? ⟨b, o + j, none⟩ = some (.int .u32 (X j))) ∧ ∀ j, j < n → 0 ≤ X j ∧ X j < 4294967296
/-- A mailbox, what it was, and a copy of it. -/
structure AP (w W : World) (b f g : Nat) (s : MS) (c cf cg bw r : Nat) (s0 : MS) (A : Option Addr) (k : Nat) : Prop where
  x : MX w W b f g s
  y : MX w W c cf cg s0
  kk : Blk W bw #[.slice A s0.xs.length k, .int .u32 s0.ctrl, .int .u32 s0.lost] 39
  ii : IRow W w.heap.size (.slice A s0.xs.length k) s0.xs r
  ne : ∀ i, (i = b ∨ i = f ∨ i = g) → i ≠ c ∧ i ≠ cf ∧ i ≠ cg ∧ i ≠ bw ∧ i ≠ r
section
variable {w W W' : World} {b f g c cf cg bw r k : Nat} {s s' s0 : MS} {A : Option Addr}
theorem AP.non (h : AP w W b f g s c cf cg bw r s0 A k) (u : Upd Non W W') : AP w W' b f g s c cf cg bw r s0 A k := ⟨h.x.non u, h.y.non u, Blk.upd u h.kk id, h.ii.non u, h.ne⟩
theorem AP.mw (h : AP w W b f g s c cf cg bw r s0 A k) (m : MW W W' b f g s') : ∃ g', (g' = g ∨ W.heap.size ≤ g') ∧ AP w W' b f g' s' c cf cg bw r s0 A k := by
  obtain ⟨g', hg, hx⟩ := h.x.mw m
  have hu := m.u
  have hn := h.ne
  have hyl := h.y.lt
  have hkl := h.kk.lt
  have hil := h.ii.lt
  refine ⟨g', hg, hx, ⟨h.y.m.upd hu (fun e => (hn _ e).1 rfl) (fun e => (hn _ e).2.1 rfl) (fun e => (hn _ e).2.2.1 rfl), Upd.call hu h.y.up (fun i hi e => by have := h.x.lo; rcases e with e | e | e <;> omega), h.y.lo⟩,
    Blk.upd hu h.kk (fun e => (hn _ e).2.2.2.1 rfl), h.ii.upd hu (fun e => (hn _ e).2.2.2.2 rfl), ?_⟩
  intro i hi
  rcases hi with hi | hi | hi
  · exact hn i (.inl hi)
  · exact hn i (.inr (.inl hi))
  · rcases hg with e | e
    · exact hn i (.inr (.inr (hi.trans e)))
    · omega
theorem AP.lt (h : AP w W b f g s c cf cg bw r s0 A k) : b < W.heap.size ∧ f < W.heap.size ∧ g < W.heap.size ∧ c < W.heap.size ∧ cf < W.heap.size ∧ cg < W.heap.size ∧ bw < W.heap.size ∧ r < W.heap.size ∧ w.heap.size ≤ W.heap.size :=
  ⟨h.x.lt.1, h.x.lt.2.1, h.x.lt.2.2, h.y.lt.1, h.y.lt.2.1, h.y.lt.2.2, h.kk.lt, h.ii.lt, h.x.up.size⟩
/-- Another block of the call's own has turned. -/
theorem AP.other (h : AP w W b f g s c cf cg bw r s0 A k) {z : Nat} (u : Upd (fun i => i = z) W W') (hz : w.heap.size ≤ z) (h1 : z ≠ b ∧ z ≠ f ∧ z ≠ g ∧ z ≠ c ∧ z ≠ cf ∧ z ≠ cg ∧ z ≠ bw ∧ z ≠ r) : AP w W' b f g s c cf cg bw r s0 A k :=
  ⟨⟨h.x.m.upd u (by omega) (by omega) (by omega), Upd.call u h.x.up (fun i hi e => by omega), h.x.lo⟩, ⟨h.y.m.upd u (by omega) (by omega) (by omega), Upd.call u h.y.up (fun i hi e => by omega), h.y.lo⟩, Blk.upd u h.kk (by omega), h.ii.upd u (by omega), h.ne⟩
/-- A row of words that State told, held against the row that was. -/
theorem AP.same (h : AP w W b f g s c cf cg bw r s0 A k) {B : Option Addr} {kb base r2 : Nat} (hi : IRow W base (.slice B s0.xs.length kb) s0.xs r2) :
    Calls Try.prog 23 #[.slice B s0.xs.length kb, .slice A s0.xs.length k] W fun e w' => e = .returned (.bool true) ∧ Upd Non W w' :=
  same_limbs B A s0.xs.length kb k (fun j => s0.xs.getD j 0) (by have := h.y.m.le; omega) W hi.at h.ii.at
end
theorem rd_xs (s : MS) {r : Int} (h : r ≠ 0) : s.rdS r = s := if_neg h
theorem wr_xs (s : MS) {r v : Int} (h : r ≠ 0) : (s.wr r v).xs = s.xs := by
  unfold MS.wr
  rw [if_neg h]
  split
  · rfl
  · split <;> rfl
set_option maxRecDepth 100000 in
set_option maxHeartbeats 16000000 in
theorem apart_m (A : Option Addr) (n cc : Nat) (X : Nat → Int) (rg v : Int) (hv0 : 0 ≤ v) (hv1 : v < 4294967296) (w : World) (hd : WordsAt w A n X) :
    Calls Try.prog 6 #[.slice A n cc, .int .i64 rg, .int .u32 v] w fun e w' => e = .returned (.bool true) ∧ Upd Non w w' := by
  have HD := Lib.hid hd
  clear hd
  go_enter Try.func6, Try.ntmps6
  go_wp2_with fail
  refine (awake_m w).mono ?_
  rintro e w1 ⟨rfl, hU⟩
  have HU1 := Lib.hid hU
  clear hU
  by_cases hn : n ≤ 300
  case neg =>
    have k1 : (300 : Int) < n := by omega
    go_wp2_with fail
    go_ret
    exact ⟨rfl, HU1.out⟩
  have k1 : ¬ (300 : Int) < n := by omega
  go_wp2_with fail
  refine (new_m w1).mono ?_
  rintro e w2 ⟨b, f, g, rfl, h⟩
  have H2 := Lib.hid (h.base HU1.out)
  clear h HU1 k1
  go_wp2_with fail
  go_loopw [8] (fun i wr => ∃ (t g' : Nat) (s : MS), t ≤ n ∧ i = .int .i64 t ∧ MX w wr b f g' s) (fun i _ => n - (intOf i).toNat)
  case atStart => exact ⟨0, g, _, Nat.zero_le _, rfl, H2.out⟩
  case round =>
    clear H2
    obtain ⟨t, g, s, ht, rfl, h⟩ := hrel
    have H := Lib.hid h
    clear h
    by_cases hlt : t < n
    case pos =>
      have k1 : (t : Int) < n := by omega
      obtain ⟨ba, o, rfl, hc⟩ := HD.out.1 (by omega)
      have c0 := H.out.up.cell_eq id (hc t hlt)
      have HX := Lib.hid (HD.out.2 t hlt)
      clear hc
      go_wp2_with fail
      refine (write_m 0 (X t) HX.out.1 HX.out.2 _ H.out.m).mono ?_
      rintro e w3 ⟨rfl, hW⟩
      obtain ⟨g2, _, h2⟩ := H.out.mw hW
      have H2 := Lib.hid h2
      clear h2 hW H c0
      go_wp2_with fail
      exact ⟨⟨t + 1, g2, _, by omega, rfl, H2.out⟩, by simp only [intOf]; omega⟩
    have k1 : ¬ (t : Int) < n := by omega
    have hx4 := H.out.m.le
    go_wp2_with fail
    refine (state_m _ H.out.m).mono ?_
    rintro e w3 ⟨vv, r, rfl, hi, hU⟩
    obtain ⟨A3, k3, rfl⟩ := hi.slice
    have H3 := Lib.hid (H.out.non hU)
    have HI3 := Lib.hid (hi.lower (base' := w.heap.size) H.out.up.size)
    have hsep : b < r ∧ f < r ∧ g < r := by have := H.out.lt; have := hi.lo; omega
    have hr3 := hi.lt
    clear hU hi H
    go_upto_region 11 with fail
    obtain ⟨w4, hw4⟩ : ∃ x, x = w3.alloc (.cells #[.slice A3 s.xs.length k3, .int .u32 s.ctrl, .int .u32 s.lost] 39) := ⟨_, rfl⟩
    obtain ⟨bw, hbw⟩ : ∃ x, x = w3.heap.size := ⟨_, rfl⟩
    have hk4 : Blk w4 bw #[.slice A3 s.xs.length k3, .int .u32 s.ctrl, .int .u32 s.lost] 39 := by rw [hw4]; exact Blk.newAt hbw
    have hu4 : Upd Non w3 w4 := by rw [hw4]; ((with_reducible repeat' first | exact Upd.refl _ _ | apply Upd.drew | apply Upd.drewN | apply Upd.alloc | refine Upd.setCell ?_ ?_) <;> first | (intro _ _ h; exact h) | (intro _ _ h; exact h.elim) | (intro i h1 h2; exfalso; (try simp only at h2); omega) | (left; rfl) | (right; dsimp only; omega) | (right; omega))
    have HK4 := Lib.hid hk4
    have H4 := Lib.hid (H3.out.non hu4)
    have HI4 := Lib.hid (HI3.out.non hu4)
    have hb4 : r < bw ∧ bw < w4.heap.size := ⟨by omega, hk4.lt⟩
    rw [← hw4, ← hbw]
    clear hw4 hbw hk4 hu4 H3 HI3 hr3
    go_wp2_with fail
    refine (copy_m _ H4.out.m).mono ?_
    rintro e w5 ⟨c, cf, cg, rfl, hy⟩
    have HP := Lib.hid (show AP w w5 b f g s c cf cg bw r s A3 k3 from
      ⟨H4.out.non hy.up, hy.base H4.out.up, Blk.upd hy.up HK4.out id, HI4.out.non hy.up, fun i hi => by have := hy.lo; omega⟩)
    clear hy HK4 H4 HI4 hb4 hsep
    go_upto_if 36 with fail
    go_cut [] (fun wx => ∃ (g' : Nat) (s' : MS), AP w wx b f g' s' c cf cg bw r s A3 k3)
    case first =>
      by_cases hr : rg = 0
      · have k2 : (rg != 0) = false := by simpa using hr
        clear hr
        go_wp2_with fail
        go_meet
        exact ⟨g, s, HP.out⟩
      have k2 : (rg != 0) = true := by simpa using hr
      have HR := Lib.hid hr
      clear hr
      go_wp2_with fail
      refine (read_m rg _ HP.out.x.m).mono ?_
      rintro e w6 ⟨rfl, _, hu⟩
      have HP6 := Lib.hid (HP.out.non (hu HR.out))
      clear hu HP
      go_wp2_with fail
      refine (state_m _ HP6.out.x.m).mono ?_
      rintro e w7 ⟨v7, r7, rfl, hi, hU⟩
      obtain ⟨A7, k7, rfl⟩ := hi.slice
      have HP7 := Lib.hid (HP6.out.non hU)
      have HI7 := Lib.hid hi
      have hr7 := hi.lt
      clear hU hi HP6
      go_upto_region 15 with fail
      obtain ⟨w8, hw8⟩ : ∃ x, x = w7.alloc (.cells #[.slice A7 s.xs.length k7, .int .u32 s.ctrl, .int .u32 s.lost] 39) := ⟨_, rfl⟩
      obtain ⟨b8, hb8⟩ : ∃ x, x = w7.heap.size := ⟨_, rfl⟩
      have hk8 : Blk w8 b8 #[.slice A7 s.xs.length k7, .int .u32 s.ctrl, .int .u32 s.lost] 39 := by rw [hw8]; exact Blk.newAt hb8
      have hu8 : Upd Non w7 w8 := by rw [hw8]; ((with_reducible repeat' first | exact Upd.refl _ _ | apply Upd.drew | apply Upd.drewN | apply Upd.alloc | refine Upd.setCell ?_ ?_) <;> first | (intro _ _ h; exact h) | (intro _ _ h; exact h.elim) | (intro i h1 h2; exfalso; (try simp only at h2); omega) | (left; rfl) | (right; dsimp only; omega) | (right; omega))
      have HK8 := Lib.hid hk8
      have HP8 := Lib.hid (HP7.out.non hu8)
      have HZ := Lib.hid (show b < b8 ∧ f < b8 ∧ g < b8 ∧ c < b8 ∧ cf < b8 ∧ cg < b8 ∧ bw < b8 ∧ r < b8 ∧ w.heap.size ≤ b8 by have := HP7.out.lt; omega)
      have HI8 := Lib.hid (HI7.out.non hu8)
      have x0 := hk8.cell 0 rfl
      have x1 := hk8.cell 1 rfl
      have x2 := hk8.cell 2 rfl
      have y0 := HP8.out.kk.cell 0 rfl
      have y1 := HP8.out.kk.cell 1 rfl
      have y2 := HP8.out.kk.cell 2 rfl
      rw [← hw8, ← hb8]
      clear hw8 hb8 hk8 hu8 HP7 HI7 hr7
      go_wp2_with fail
      refine (HP8.out.same HI8.out).mono ?_
      rintro e w9 ⟨rfl, hU⟩
      have HP9 := Lib.hid (HP8.out.non hU)
      have x1 := (Blk.upd hU HK8.out id).cell 1 rfl
      have x2 := (Blk.upd hU HK8.out id).cell 2 rfl
      have y1 := HP9.out.kk.cell 1 rfl
      have y2 := HP9.out.kk.cell 2 rfl
      have e1 : (s.ctrl != s.ctrl) = false := by simp
      have e2 : (s.lost != s.lost) = false := by simp
      have HK9 := Lib.hid (Blk.upd hU HK8.out id)
      clear hU HP8 HI8 HK8
      go_upto_region 17 with fail
      clear x1 x2 y1 y2 e1 e2
      go_wp2_with fail
      refine (write_m rg v hv0 hv1 _ HP9.out.x.m).mono ?_
      rintro e w10 ⟨rfl, hW⟩
      obtain ⟨g10, hg10, h10⟩ := HP9.out.mw hW
      have HP10 := Lib.hid h10
      have HK10 := Lib.hid (Blk.upd hW.u HK9.out (fun e => by have := HZ.out; rcases e with e | e | e <;> omega))
      have hg8 : g10 ≠ b8 := by have := HZ.out; have := HK9.out.lt; omega
      have HG := Lib.hid hg8
      clear hW h10 HP9 HK9 hg10 hg8
      go_wp2_with fail
      refine (state_m _ HP10.out.x.m).mono ?_
      rintro e w11 ⟨v11, r11, rfl, hi, hU⟩
      rw [wr_xs _ HR.out] at hi
      obtain ⟨A11, k11, rfl⟩ := hi.slice
      have HP11 := Lib.hid (HP10.out.non hU)
      have hK11 := Blk.upd hU HK10.out id
      have HI11 := Lib.hid hi
      have HK11 := Lib.hid hK11
      have hr8 : r11 ≠ b8 := by have := hi.lo; have := HK10.out.lt; omega
      have x0 := hK11.cell 0 rfl
      have x1 := hK11.cell 1 rfl
      have x2 := hK11.cell 2 rfl
      have f0 := hK11.frozen 0
      have f1 := hK11.frozen 1
      have f2 := hK11.frozen 2
      obtain ⟨cc1, hcc1⟩ : ∃ x, x = (s.wr rg v).ctrl := ⟨_, rfl⟩
      obtain ⟨ll1, hll1⟩ : ∃ x, x = (s.wr rg v).lost := ⟨_, rfl⟩
      rw [← hcc1, ← hll1]
      clear hU hi HP10 HK10 hK11 hcc1 hll1
      go_upto_region 19 with fail
      obtain ⟨w12, hw12⟩ : ∃ x, x = ((w11.setCell ⟨b8, 0, none⟩ (.slice A11 s.xs.length k11)).setCell ⟨b8, 1, none⟩ (.int .u32 cc1)).setCell ⟨b8, 2, none⟩ (.int .u32 ll1) := ⟨_, rfl⟩
      have hu12 : Upd (fun i => i = b8) w11 w12 := by rw [hw12]; ((with_reducible repeat' first | exact Upd.refl _ _ | apply Upd.drew | apply Upd.drewN | apply Upd.alloc | refine Upd.setCell ?_ ?_) <;> first | (intro _ _ h; exact h) | (intro _ _ h; exact h.elim) | (intro i h1 h2; exfalso; (try simp only at h2); omega) | (left; rfl) | (right; dsimp only; omega) | (right; omega))
      have hk12 : Blk w12 b8 #[.slice A11 s.xs.length k11, .int .u32 cc1, .int .u32 ll1] 39 := by rw [hw12]; exact Blk.set (Blk.set (Blk.set HK11.out))
      have HP12 := Lib.hid (HP11.out.other hu12 HZ.out.2.2.2.2.2.2.2.2 (by have := HZ.out; have := HG.out; omega))
      have HI12 := Lib.hid (HI11.out.upd hu12 hr8)
      have z0 := hk12.cell 0 rfl
      have y0 := HP12.out.kk.cell 0 rfl
      rw [← hw12]
      clear hw12 hu12 hk12 HP11 HI11 HK11 x0 x1 x2 f0 f1 f2 hr8
      go_wp2_with fail
      refine (HP12.out.same HI12.out).mono ?_
      rintro e w13 ⟨rfl, hU⟩
      have HP13 := Lib.hid (HP12.out.non hU)
      clear hU HP12 HI12 z0 y0
      go_wp2_with fail
      go_meet
      exact ⟨_, _, HP13.out⟩
    case rest =>
      clear HP
      obtain ⟨g1, s1, h⟩ := hcut
      have HP := Lib.hid h
      clear h
      go_wp2_with fail
      refine (read_m 0 _ HP.out.x.m).mono ?_
      rintro e w6 ⟨rfl, hW, _⟩
      obtain ⟨g6, _, h6⟩ := HP.out.mw hW
      have HP6 := Lib.hid h6
      clear hW h6 HP
      go_wp2_with fail
      refine (write_m 0 v hv0 hv1 _ HP6.out.x.m).mono ?_
      rintro e w7 ⟨rfl, hW⟩
      obtain ⟨g7, _, h7⟩ := HP6.out.mw hW
      have HP7 := Lib.hid h7
      clear hW h7 HP6
      go_wp2_with fail
      refine (write_m 2 1 (by decide) (by decide) _ HP7.out.x.m).mono ?_
      rintro e w8 ⟨rfl, hW⟩
      obtain ⟨g8, _, h8⟩ := HP7.out.mw hW
      have HP8 := Lib.hid h8
      clear hW h8 HP7
      go_wp2_with fail
      refine (state_m _ HP8.out.y.m).mono ?_
      rintro e w9 ⟨v9, r9, rfl, hi, hU⟩
      obtain ⟨A9, k9, rfl⟩ := hi.slice
      have HP9 := Lib.hid (HP8.out.non hU)
      have HI9 := Lib.hid hi
      clear hU hi HP8
      go_upto_region 25 with fail
      obtain ⟨w10, hw10⟩ : ∃ x, x = w9.alloc (.cells #[.slice A9 s.xs.length k9, .int .u32 s.ctrl, .int .u32 s.lost] 39) := ⟨_, rfl⟩
      obtain ⟨b10, hb10⟩ : ∃ x, x = w9.heap.size := ⟨_, rfl⟩
      have hk10 : Blk w10 b10 #[.slice A9 s.xs.length k9, .int .u32 s.ctrl, .int .u32 s.lost] 39 := by rw [hw10]; exact Blk.newAt hb10
      have hu10 : Upd Non w9 w10 := by rw [hw10]; ((with_reducible repeat' first | exact Upd.refl _ _ | apply Upd.drew | apply Upd.drewN | apply Upd.alloc | refine Upd.setCell ?_ ?_) <;> first | (intro _ _ h; exact h) | (intro _ _ h; exact h.elim) | (intro i h1 h2; exfalso; (try simp only at h2); omega) | (left; rfl) | (right; dsimp only; omega) | (right; omega))
      have HK10 := Lib.hid hk10
      have HP10 := Lib.hid (HP9.out.non hu10)
      have HI10 := Lib.hid (HI9.out.non hu10)
      have x0 := hk10.cell 0 rfl
      have y0 := HP10.out.kk.cell 0 rfl
      rw [← hw10, ← hb10]
      clear hw10 hb10 hk10 hu10 HP9 HI9
      go_wp2_with fail
      refine (HP10.out.same HI10.out).mono ?_
      rintro e w11 ⟨rfl, hU⟩
      have HP11 := Lib.hid (HP10.out.non hU)
      have x1 := (Blk.upd hU HK10.out id).cell 1 rfl
      have x2 := (Blk.upd hU HK10.out id).cell 2 rfl
      have y1 := HP11.out.kk.cell 1 rfl
      have y2 := HP11.out.kk.cell 2 rfl
      have e1 : (s.ctrl == s.ctrl) = true := by simp
      have e2 : (s.lost == s.lost) = true := by simp
      clear hU HP10 HI10 HK10 x0 y0
      go_wp2_with fail
      go_ret
      exact ⟨rfl, HP11.out.x.up⟩
end Go.Proofs.Ytlpfjjhjfmcfmaa
