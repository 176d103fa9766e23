/- MailboxDoes: the law's walk. Conditions: the deeds' cells are known. -/
import Derived.Test.YtlpfjjhjfmcfmaaMboxDeed
import Derived.Test.YtlpfjjhjfmcfmaaMboxApartLaw
import Derived.Test.YtlpfjjhjfmcfmaaPick
namespace Go.Proofs.Ytlpfjjhjfmcfmaa
open Go.RowKit
/-- The deeds' cells. -/
def DeedsM (w : World) (A : Option Addr) (n : Nat) (H R V : Nat → Int) : Prop := (0 < n → ∃ b o, A = some ⟨b, o, none⟩ ∧ ∀ j, j < n → w.cell? ⟨b, o + j * 3, none⟩ = some (.int .i64 (H j)) ∧ w.cell? ⟨b, o + j * 3 + 1, none⟩ = some (.int .i64 (R j)) ∧ w.cell? ⟨b, o + j * 3 + 2, none⟩ = some (.int .u32 (V j))) ∧ ∀ j, j < n → 0 ≤ V j ∧ V j < 4294967296
/-- A mailbox and the document's. -/
structure DX (w W : World) (b f g c : Nat) (v : Value) (s s' : MS) : Prop where
  x : MX w W b f g s
  r : RX w W c v s'
  ne : c ≠ b ∧ c ≠ f ∧ c ≠ g
  nv : ∀ k, v.ownBlock = some k → k ≠ b ∧ k ≠ f ∧ k ≠ g
section
variable {w W W' : World} {b f g c : Nat} {v : Value} {s s' s2 : MS}
theorem DX.non (h : DX w W b f g c v s s') (u : Upd Non W W') : DX w W' b f g c v s s' := ⟨h.x.non u, h.r.non u, h.ne, h.nv⟩
theorem DX.mw (h : DX w W b f g c v s s') (m : MW W W' b f g s2) : ∃ g', (g' = g ∨ W.heap.size ≤ g') ∧ DX w W' b f g' c v s2 s' := by
  obtain ⟨g', hg, hx⟩ := h.x.mw m
  have hne := h.ne
  have hcl := h.r.B.lt
  refine ⟨g', hg, hx, h.r.upd m.u (fun e => by rcases e with e | e | e <;> omega) (fun k hk e => by have := h.nv k hk; rcases e with e | e | e <;> omega), ?_, fun k hk => ?_⟩
  · rcases hg with e | e
    · rw [e]; exact hne
    · exact ⟨hne.1, hne.2.1, by omega⟩
  · have h1 := h.nv k hk
    have h2 := (h.r.Q.own k hk).2
    rcases hg with e | e
    · rw [e]; exact h1
    · exact ⟨h1.1, h1.2.1, by omega⟩
theorem DX.rw (h : DX w W b f g c v s s') (m : RW w W W' c v s2) : ∃ v', DX w W' b f g c v' s s2 := by
  obtain ⟨⟨v', hv, hr⟩, hu⟩ := m
  have hne := h.ne
  have hxl := h.x.lt
  have hlo := h.x.lo
  have nb : ∀ i, RX.blocks c v i → i ≠ b ∧ i ≠ f ∧ i ≠ g := fun i e => by
    rcases e with e | e
    · subst e; exact hne
    · exact h.nv i e
  refine ⟨v', ⟨h.x.m.upd hu (fun e => (nb _ e).1 rfl) (fun e => (nb _ e).2.1 rfl) (fun e => (nb _ e).2.2 rfl), Upd.call hu h.x.up (fun i hi e => ?_), h.x.lo⟩, hr, hne, fun k hk => ?_⟩
  · rcases e with e | e
    · have := h.r.lo; omega
    · have := (h.r.Q.own i e).1; omega
  · rcases hv with e | ⟨k', e, e'⟩
    · exact h.nv k (e ▸ hk)
    · rw [e] at hk; cases hk; omega
theorem rread_any {rg : Int} (h : DX w W b f g c v s2 s) (hl : s.xs.length ≤ 4) : Calls Try.prog 26 #[.pointer (some ⟨c, 0, none⟩), .int .i64 rg] W fun e w' => e = .returned (.int .u32 (s.rd rg)) ∧ (∃ v', DX w w' b f g c v' s2 (s.rdS rg)) ∧ Upd (RX.blocks c v) W w' := by
  by_cases hr : rg = 0
  · subst hr
    exact (rread0_m h.r).mono fun _ _ k => ⟨k.1, h.rw k.2, k.2.u⟩
  · rw [rd_xs s hr]
    exact (rread_m hr h.r hl).mono fun _ _ k => ⟨k.1, k.2 ▸ ⟨v, h⟩, k.2 ▸ Upd.refl _ _⟩
/-- The old mailbox, behind a copy of it: the copy and the document's; the deed's block. -/
structure DY (w W : World) (b f g : Nat) (s1 : MS) (b2 f2 g2 c : Nat) (v : Value) (s s' : MS) (bd : Nat) (X : Array Value) : Prop where
  y : MX w W b f g s1
  d : DX w W b2 f2 g2 c v s s'
  e : Blk W bd X 48
  ne : ∀ i, (i = b ∨ i = f ∨ i = g) → i ≠ b2 ∧ i ≠ f2 ∧ i ≠ g2 ∧ i ≠ c ∧ i ≠ bd ∧ v.ownBlock ≠ some i
theorem DY.mw {b2 f2 g2 bd : Nat} {s1 s3 : MS} {X : Array Value} (h : DY w W b f g s1 b2 f2 g2 c v s s' bd X) (m : MW W W' b f g s3) : ∃ g', DY w W' b f g' s3 b2 f2 g2 c v s s' bd X := by
  obtain ⟨g', hg, hy⟩ := h.y.mw m
  have hn := h.ne
  have hl := h.d.x.lt
  have hcl := h.d.r.B.lt
  have hel := h.e.lt
  have hlo := h.y.lo
  refine ⟨g', hy, ⟨⟨h.d.x.m.upd m.u (fun e => (hn _ e).1 rfl) (fun e => (hn _ e).2.1 rfl) (fun e => (hn _ e).2.2.1 rfl), Upd.call m.u h.d.x.up (fun i hi e => by rcases e with e | e | e <;> omega), h.d.x.lo⟩,
    h.d.r.upd m.u (fun e => (hn _ e).2.2.2.1 rfl) (fun k hk e => (hn _ e).2.2.2.2.2 hk), h.d.ne, h.d.nv⟩, Blk.upd m.u h.e (fun e => (hn _ e).2.2.2.2.1 rfl), fun i hi => ?_⟩
  rcases hi with hi | hi | hi
  · exact hn i (.inl hi)
  · exact hn i (.inr (.inl hi))
  · rcases hg with e | e
    · exact hn i (.inr (.inr (hi.trans e)))
    · exact ⟨by omega, by omega, by omega, by omega, by omega, fun hk => by have := (h.d.r.Q.own i hk).2; omega⟩
theorem DX.copied {b2 f2 g2 bd : Nat} {X : Array Value} (h : DX w W b f g c v s s') (hb : Blk W bd X 48) (hne : bd ≠ b ∧ bd ≠ f ∧ bd ≠ g) (k : MX W W' b2 f2 g2 s) : DY w W' b f g s b2 f2 g2 c v s s' bd X := by
  have hl := h.x.lt
  have hcl := h.r.B.lt
  have hlo := k.lo
  refine ⟨h.x.non k.up, ⟨k.base h.x.up, h.r.non k.up, by omega, fun j hj => ?_⟩, Blk.upd k.up hb id, fun i hi => ⟨?_, ?_, ?_, ?_, ?_, ?_⟩⟩
  · have := (h.r.Q.own j hj).2
    omega
  · rcases hi with e | e | e <;> omega
  · rcases hi with e | e | e <;> omega
  · rcases hi with e | e | e <;> omega
  · have := h.ne
    rcases hi with e | e | e <;> omega
  · rcases hi with e | e | e <;> omega
  · intro hk
    have := h.nv i hk
    rcases hi with e | e | e <;> omega
theorem xor_ok {x : Int} (h0 : 0 ≤ x) (h1 : x ≤ 1) : 0 ≤ bits BinOp.xor IntKind.u32 IntKind.u32.max x ∧ bits BinOp.xor IntKind.u32 IntKind.u32.max x < 4294967296 := by
  rcases (show x = 0 ∨ x = 1 by omega) with rfl | rfl
  all_goals decide +kernel
theorem MS.rdS_ok {r : Int} (h : s.ok) : (s.rdS r).ok := by
  unfold MS.rdS
  split
  · exact MS.tk_ok h
  · exact h
end
set_option maxRecDepth 100000 in
set_option maxHeartbeats 16000000 in
theorem does_m (A : Option Addr) (n cc : Nat) (H R V : Nat → Int) (w : World) (hd : DeedsM w A n H R V) : Calls Try.prog 7 #[.slice A n cc] w fun e w' => e = .returned (.bool true) ∧ Upd Non w w' := by
  have HD := Lib.hid hd
  clear hd
  go_enter Try.func7, Try.ntmps7
  by_cases hn : n ≤ 300
  case neg =>
    have k1 : (300 : Int) < n := by omega
    go_wp2_with fail
    refine (awake_m w).mono ?_
    rintro e w1 ⟨rfl, hU⟩
    have HU1 := Lib.hid hU
    clear hU
    go_wp2_with fail
    go_ret
    exact ⟨rfl, HU1.out⟩
  have k1 : ¬ (300 : Int) < n := by omega
  go_wp2_with fail
  refine (new_m w).mono ?_
  rintro e w1 ⟨b, f, g, rfl, h⟩
  have H1 := Lib.hid h
  clear h
  go_wp2_with fail
  obtain ⟨w2, hw2⟩ : ∃ x, x = w1.alloc (.cells #[.slice none 0 0, .int .u32 0, .int .u32 0] 46) := ⟨_, rfl⟩
  obtain ⟨c, hc⟩ : ∃ x, x = w1.heap.size := ⟨_, rfl⟩
  have HX := Lib.hid (show DX w w2 b f g c (.slice none 0 0) MS.fresh MS.fresh from by
    have hu2 : Upd Non w1 w2 := by rw [hw2]; ((with_reducible repeat' first | exact Upd.refl _ _ | apply Upd.drew | apply Upd.drewN | apply Upd.alloc | refine Upd.setCell ?_ ?_) <;> first | (intro _ _ h; exact h) | (intro _ _ h; exact h.elim) | (intro i h1 h2; exfalso; (try simp only at h2); omega) | (left; rfl) | (right; dsimp only; omega) | (right; omega))
    have hl := H1.out.lt
    have hsz := H1.out.up.size
    exact ⟨H1.out.non hu2, ⟨by rw [hw2]; exact Blk.newAt hc, QRow.nil _ _, (fun k hk => by cases hk), by omega, Nat.le_trans hsz hu2.size⟩, by omega, fun k hk => by cases hk⟩)
  rw [← hw2, ← hc]
  clear hw2 hc H1
  go_loopw [3, 5, 6, 7, 8] (fun bv iv _ _ _ wr => ∃ (t b f g : Nat) (v : Value) (s : MS), t ≤ n ∧ iv = .int .i64 t ∧ bv = .pointer (some ⟨b, 0, none⟩) ∧ DX w wr b f g c v s s) (fun _ iv _ _ _ _ => n - (intOf iv).toNat)
  case atStart => exact ⟨0, b, f, g, _, _, Nat.zero_le _, rfl, rfl, HX.out⟩
  case round =>
    clear HX k1
    obtain ⟨t, b, f, g, v, s, ht, rfl, rfl, h⟩ := hrel
    have HX := Lib.hid h
    have hl4 := h.x.m.le
    clear h
    by_cases hlt : t < n
    case neg =>
      have k1 : ¬ (t : Int) < n := by omega
      go_wp2_with fail
      refine (same_m HX.out.x HX.out.r).mono ?_
      rintro e w3 ⟨rfl, hU⟩
      have HU := Lib.hid (Upd.call hU HX.out.x.up fun _ _ h => h)
      clear hU HX
      go_wp2_with fail
      refine (awake_m _).mono ?_
      rintro e w4 ⟨rfl, hU⟩
      have HU4 := Lib.hid (Upd.call hU HU.out fun _ _ h => h)
      clear hU HU
      go_wp2_with fail
      go_ret
      exact ⟨rfl, HU4.out⟩
    have k1 : (t : Int) < n := by omega
    obtain ⟨ba, o, rfl, hc⟩ := HD.out.1 (by omega)
    obtain ⟨d0, d1, d2⟩ := hc t hlt
    have e0 := HX.out.x.up.cell_eq id d0
    have e1 := HX.out.x.up.cell_eq id d1
    have e2 := HX.out.x.up.cell_eq id d2
    have HV := Lib.hid (HD.out.2 t hlt)
    obtain ⟨hh, ehh⟩ : ∃ x, x = H t := ⟨_, rfl⟩
    obtain ⟨rg, erg⟩ : ∃ x, x = R t := ⟨_, rfl⟩
    obtain ⟨vv, evv⟩ : ∃ x, x = V t := ⟨_, rfl⟩
    rw [← ehh] at e0
    rw [← erg] at e1
    rw [← evv] at e2 HV
    clear hc d0 d1 d2 ehh erg evv
    go_upto_region 8 with fail
    obtain ⟨w4, hw4⟩ : ∃ x, x = wr.alloc (.cells #[.int .i64 hh, .int .i64 rg, .int .u32 vv] 48) := ⟨_, rfl⟩
    obtain ⟨bd, hbd⟩ : ∃ x, x = wr.heap.size := ⟨_, rfl⟩
    have hD4 : Blk w4 bd #[.int .i64 hh, .int .i64 rg, .int .u32 vv] 48 := by rw [hw4]; exact Blk.newAt hbd
    have hu4 : Upd Non wr w4 := by rw [hw4]; ((with_reducible repeat' first | exact Upd.refl _ _ | apply Upd.drew | apply Upd.drewN | apply Upd.alloc | refine Upd.setCell ?_ ?_) <;> first | (intro _ _ h; exact h) | (intro _ _ h; exact h.elim) | (intro i h1 h2; exfalso; (try simp only at h2); omega) | (left; rfl) | (right; dsimp only; omega) | (right; omega))
    have HX4 := Lib.hid (HX.out.non hu4)
    have hxl := HX.out.x.lt
    have hcl := HX.out.r.B.lt
    have HBD := Lib.hid (show bd ≠ b ∧ bd ≠ f ∧ bd ≠ g ∧ bd ≠ c ∧ ∀ k, v.ownBlock = some k → k ≠ bd from ⟨by omega, by omega, by omega, by omega, fun k hk => by have := (HX.out.r.Q.own k hk).2; omega⟩)
    have HDD := Lib.hid hD4
    have q0 := hD4.cell 0 rfl
    have q1 := hD4.cell 1 rfl
    have q2 := hD4.cell 2 rfl
    rw [← hw4, ← hbd]
    clear hw4 hbd hD4 hu4 HX e0 e1 e2 hxl hcl
    go_wp2_with fail
    refine (pick_spec hh 3 (by decide) (by decide) _).mono ?_
    rintro e w5 ⟨rfl, rfl⟩
    obtain ⟨kk, hkk⟩ : ∃ x, x = hh % 3 := ⟨_, rfl⟩
    have hk3 : kk = 0 ∨ kk = 1 ∨ kk = 2 := by omega
    rw [← hkk]
    clear hkk
    go_upto_block 2 with fail
    go_cut [3] (fun bv wx => ∃ (b f g : Nat) (v : Value) (s : MS), bv = .pointer (some ⟨b, 0, none⟩) ∧ DX w wx b f g c v s s)
    case first =>
      have hok := HX4.out.x.m.ok
      rcases hk3 with rfl | rfl | rfl
      · have hne : (s.rd rg != s.rd rg) = false := by simp
        have HD5 := Lib.hid (show DX w w4.drew b f g c v s s from HX4.out.non (Upd.refl _ _).drew)
        have HBD5 := Lib.hid (show Blk w4.drew bd #[.int .i64 hh, .int .i64 rg, .int .u32 vv] 48 from HDD.out)
        go_wp2_with fail
        go_region_held3 (fun w' => w'.cell? ⟨bd, 1, none⟩ = some (.int .i64 rg)) (first | exact q1 | exact HB5.out.cell 1 rfl | exact HB6.out.cell 1 rfl) (first
          | (go_at_call 20; refine (read_m rg _ HD5.out.x.m).mono ?_; rintro e w5 ⟨rfl, hW, _⟩; obtain ⟨g5, _, h5⟩ := HD5.out.mw hW; have HX5 := Lib.hid h5; have HB5 := Lib.hid (Blk.upd hW.u HBD5.out (fun e => by have := HBD.out; rcases e with e | e | e <;> omega)); clear hW h5)
          | (go_at_call 26; refine (rread_any HX5.out hl4).mono ?_; rintro e w6 ⟨rfl, ⟨v6, h6⟩, hU⟩; have HX6 := Lib.hid h6; have HB6 := Lib.hid (Blk.upd hU HB5.out (fun e => by rcases e with e | e; exact HBD.out.2.2.2.1 e; exact HBD.out.2.2.2.2 _ e rfl)); clear h6 hU))
        go_wp2_with fail
        go_meet
        exact ⟨b, f, g5, v6, _, rfl, HX6.out⟩
      · go_wp2_with fail
        refine (write_m rg vv HV.out.1 HV.out.2 _ HX4.out.x.m).mono ?_
        rintro e w5 ⟨rfl, hW⟩
        obtain ⟨g5, _, h5⟩ := HX4.out.mw hW
        have HX5 := Lib.hid h5
        have hB5 := Blk.upd hW.u HDD.out (fun e => by have := HBD.out; rcases e with e | e | e <;> omega)
        have y1 := hB5.cell 1 rfl
        have y2 := hB5.cell 2 rfl
        clear hW h5 HX4 q0 q1 q2 hB5
        go_wp2_with fail
        refine (rwrite_m rg vv HV.out.1 HV.out.2 HX5.out.r hl4 hok).mono ?_
        rintro e w6 ⟨rfl, hW⟩
        obtain ⟨v6, h6⟩ := HX5.out.rw hW
        have HX6 := Lib.hid h6
        clear hW h6 HX5 y1 y2
        go_wp2_with fail
        go_meet
        exact ⟨b, f, g5, v6, _, rfl, HX6.out⟩
      · go_wp2_with fail
        refine (copy_m _ HX4.out.x.m).mono ?_
        rintro e w5 ⟨b2, f2, g2, rfl, hm⟩
        have HY5 := Lib.hid (HX4.out.copied HDD.out ⟨HBD.out.1, HBD.out.2.1, HBD.out.2.2.1⟩ hm)
        have y2 := HY5.out.e.cell 2 rfl
        clear hm HX4 q0 q1 q2 HDD
        go_wp2_with fail
        refine (write_m 0 vv HV.out.1 HV.out.2 _ HY5.out.y.m).mono ?_
        rintro e w6 ⟨rfl, hW⟩
        obtain ⟨g6, h6⟩ := HY5.out.mw hW
        have HY6 := Lib.hid h6
        clear hW h6 HY5 y2
        go_wp2_with fail
        refine (read_m 0 _ HY6.out.y.m).mono ?_
        rintro e w7 ⟨rfl, hW, _⟩
        obtain ⟨g7, h7⟩ := HY6.out.mw hW
        have HY7 := Lib.hid h7
        have c1 := h7.d.r.B.cell 1 rfl
        clear hW h7 HY6
        go_wp2_with fail
        have hxo := xor_ok (HY7.out.d.x.m.ok.c0) (HY7.out.d.x.m.ok.c1)
        refine (write_m 2 _ hxo.1 hxo.2 _ HY7.out.y.m).mono ?_
        rintro e w8 ⟨rfl, hW⟩
        obtain ⟨g8, h8⟩ := HY7.out.mw hW
        have HY8 := Lib.hid h8
        have y2 := h8.e.cell 2 rfl
        clear hW h8 HY7 c1 hxo
        go_wp2_with fail
        refine (write_m 0 vv HV.out.1 HV.out.2 _ HY8.out.y.m).mono ?_
        rintro e w9 ⟨rfl, hW⟩
        obtain ⟨g9, h9⟩ := HY8.out.mw hW
        have HY9 := Lib.hid h9
        clear hW h9 HY8 y2
        go_wp2_with fail
        go_meet
        exact ⟨b2, f2, g2, v, s, rfl, HY9.out.d⟩
    case rest =>
      clear HX4 q0 q1 q2 HDD HBD hl4 hk3
      obtain ⟨b, f, g, v, s, rfl, h⟩ := hcut
      have HX := Lib.hid h
      clear h
      go_wp2_with fail
      refine (same_m HX.out.x HX.out.r).mono ?_
      rintro e w5 ⟨rfl, hU⟩
      have HX5 := Lib.hid (HX.out.non hU)
      have hl4 := HX.out.x.m.le
      clear hU HX
      go_wp2_with fail
      refine (state_m _ HX5.out.x.m).mono ?_
      rintro e w6 ⟨v6, r6, rfl, hi, hU⟩
      obtain ⟨A6, k6, rfl⟩ := hi.slice
      have HX6 := Lib.hid (HX5.out.non hU)
      have HI6 := Lib.hid hi
      have hlt6 := HX5.out.x.lt
      have hcl6 := HX5.out.r.B.lt
      have HQ6 := Lib.hid (show ∀ k, Value.ownBlock (.slice A6 s.xs.length k6) = some k → w5.heap.size ≤ k from fun k hk => (own_block hi.own k hk).1)
      have HVB := Lib.hid (show ∀ k, v.ownBlock = some k → k < w5.heap.size from fun k hk => (HX5.out.r.Q.own k hk).2)
      have hz5 := HX5.out.x.up.size
      clear hU hi HX5
      go_upto_region 24 with fail
      obtain ⟨w7, hw7⟩ : ∃ x, x = w6.alloc (.cells #[.slice A6 s.xs.length k6, .int .u32 s.ctrl, .int .u32 s.lost] 39) := ⟨_, rfl⟩
      obtain ⟨b7, hb7⟩ : ∃ x, x = w6.heap.size := ⟨_, rfl⟩
      have hk7 : Blk w7 b7 #[.slice A6 s.xs.length k6, .int .u32 s.ctrl, .int .u32 s.lost] 39 := by rw [hw7]; exact Blk.newAt hb7
      have hu7 : Upd Non w6 w7 := by rw [hw7]; ((with_reducible repeat' first | exact Upd.refl _ _ | apply Upd.drew | apply Upd.drewN | apply Upd.alloc | refine Upd.setCell ?_ ?_) <;> first | (intro _ _ h; exact h) | (intro _ _ h; exact h.elim) | (intro i h1 h2; exfalso; (try simp only at h2); omega) | (left; rfl) | (right; dsimp only; omega) | (right; omega))
      have HX7 := Lib.hid (HX6.out.non hu7)
      have HI7 := Lib.hid (HI6.out.non hu7)
      have x0 := hk7.cell 0 rfl
      rw [← hw7, ← hb7]
      clear hw7 hb7 hk7 hu7 HX6 HI6
      go_wp2_with fail
      refine (over_m (xs := s.xs) _ HI7.out.own (by omega)).mono ?_
      rintro e w8 ⟨rfl, hU⟩
      have HX8 := Lib.hid (show DX w w8 b f g c v s s from
        ⟨⟨HX7.out.x.m.upd hU (fun e => by have := HQ6.out _ e; omega) (fun e => by have := HQ6.out _ e; omega) (fun e => by have := HQ6.out _ e; omega), Upd.call hU HX7.out.x.up (fun i hi e => by have := HQ6.out _ e; omega), HX7.out.x.lo⟩,
          HX7.out.r.upd hU (fun e => by have := HQ6.out _ e; omega) (fun k hk e => by have h1 := HQ6.out _ e; have h2 := HVB.out k hk; omega), HX7.out.ne, HX7.out.nv⟩)
      clear hU HX7 HI7 x0
      go_wp2_with fail
      exact ⟨⟨t + 1, b, f, g, v, s, by omega, rfl, rfl, HX8.out⟩, by simp only [intOf]; omega⟩
end Go.Proofs.Ytlpfjjhjfmcfmaa
