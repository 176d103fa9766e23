/- Look. Conditions: the board holds what may be; the levels' cells are known and no cells of the board. -/
import Derived.Test.YtkhhmkcpbefadaaIrqLookPlain
namespace Go.Proofs.Ytkhhmkcpbefadaa
open Go.RowKit
theorem quiet_bad (b : Nat) (k : Int) (h : badW k) (w : World) : Calls Try.prog 31 #[.pointer (some ⟨b, 1, none⟩), .int .i64 k] w fun e w' => e = .returned (.tuple #[.pointer none, .bool false]) ∧ w' = w :=
  (of_bad b k h w).mono fun _ _ h => ⟨h.1, h.2.symm⟩
theorem quiet_is (b k : Nat) (hk : k < 8) (w : World) : Calls Try.prog 31 #[.pointer (some ⟨b, 1, none⟩), .int .i64 k] w fun e w' => e = .returned (.tuple #[.pointer (some ⟨b, 1 + k * 2, none⟩), .bool true]) ∧ w' = w :=
  (of_is b k hk w).mono fun _ _ h => ⟨h.1, h.2.symm⟩
theorem BI.high {w : World} {b r i : Nat} {ws : List WR} {s : WS} {x : WR} (h : BI w b r ws s) (hx : ws[i]? = some x) (hh : Bool) : BI (w.setCell ⟨r, i * 3 + 2, none⟩ (.bool hh)) b r (ws.set i { x with hi := hh }) s := by
  obtain ⟨v, h1, h2, h3⟩ := h.ex
  have h4 : r ≠ b := by
    rcases h3 with h3 | ⟨rfl, _⟩
    · exact h3
    · cases hx
  exact ⟨⟨v, Blk.set_ne h1.blk (fun e => h4 e.symm), h2.high hx hh, .inl h4⟩, by rw [World.size_setCell]; exact h.lt⟩
theorem BI.ones {w : World} {b r k : Nat} {ws : List WR} {s : WS} (h : BI w b r ws s) (hk : k < 8) (x : Nat) : BI (w.setCell ⟨b, 1 + k * 2, none⟩ (.int .u8 x)) b r ws (s.setW k x) := by
  obtain ⟨v, h1, h2, h3⟩ := h.ex
  exact BI.put h2 h3 h.lt (Blk.eq (Blk.set h1.blk) (benc_setW v s k hk x)) ((Upd.refl _ _).setCell (.inl rfl))
theorem lstep_out {p : List WR × WS} {t : Nat} {x : WR} (hx : p.1[t]? = some x) (h : x.ow < 0 ∨ x.ln < 0) (hh : Bool) : lstep p t hh = p := by
  simp only [lstep, hx]
  exact if_neg (by omega)
theorem lstep_in {p : List WR × WS} {t : Nat} {x : WR} (hx : p.1[t]? = some x) (h1 : 0 ≤ x.ow) (h2 : 0 ≤ x.ln) (hh : Bool) :
    lstep p t hh = (p.1.set t { x with hi := hh }, if hh && !x.hi then p.2.setW x.ow.toNat (p.2.wt x.ow.toNat ||| 2 ^ x.ln.toNat) else p.2) := by
  simp only [lstep, hx]
  exact if_pos ⟨h1, h2⟩
theorem look_bad {ws : List WR} {s : WS} {b r : Nat} (A : Option Addr) (n cc : Nat) (hne : n ≠ ws.length) (w : World) (h : BI w b r ws s) :
    Calls Try.prog 12 #[.pointer (some ⟨b, 0, none⟩), .slice A n cc] w fun e w' => e = .returned (.int .i64 2) ∧ w = w' := by
  obtain ⟨v, h1, h2, _⟩ := h.ex
  have HB := Lib.hid h1
  obtain ⟨A2, c2, rfl, _⟩ := h2.slice
  have c0 := h1.blk.cell 0 (benc_row _ _)
  clear h h1 h2
  have k1 : ¬ (n : Int) = ws.length := by omega
  go_enter Try.func12, Try.ntmps12
  go_wp2_with (first | (go_at_call 30; refine (there_is _ HB.out).mono ?_; rintro e w1 ⟨rfl, rfl⟩))
  go_ret
  exact ⟨rfl, rfl⟩
set_option maxRecDepth 100000 in
set_option maxHeartbeats 8000000 in
theorem look_b {ws : List WR} {s : WS} {b r : Nat} (A : Option Addr) (cc : Nat) (LV : Nat → Bool) (hn : ws.length ≤ 100000) (w : World) (hf : Fit ws s) (h : BI w b r ws s)
    (hl : 0 < ws.length → ∃ g o, A = some ⟨g, o, none⟩ ∧ g ≠ b ∧ g ≠ r ∧ ∀ i, i < ws.length → w.cell? ⟨g, o + i, none⟩ = some (.bool (LV i))) :
    Calls Try.prog 12 #[.pointer (some ⟨b, 0, none⟩), .slice A ws.length cc] w fun e w' => e = .returned (.int .i64 0) ∧ BI w' b r (lookR LV (ws, s) ws.length).1 (lookR LV (ws, s) ws.length).2 ∧ Upd (fun i => i = b ∨ i = r) w w' := by
  have H := Lib.hid h
  have HF := Lib.hid hf
  have HL := Lib.hid hl
  obtain ⟨v, h1, h2, _⟩ := h.ex
  have HB := Lib.hid h1
  obtain ⟨A2, c2, rfl, _⟩ := h2.slice
  have c0 := h1.blk.cell 0 (benc_row _ _)
  clear h h1 h2 hf hl
  obtain ⟨n, hn0⟩ : ∃ n, n = ws.length := ⟨_, rfl⟩
  have HN := Lib.hid hn0
  rw [← hn0] at c0 hn ⊢
  clear hn0
  go_enter Try.func12, Try.ntmps12
  go_wp2_with (first | (go_at_call 30; refine (there_is _ HB.out).mono ?_; rintro e w1 ⟨rfl, rfl⟩))
  go_loopw [26] (fun i wr => ∃ t : Nat, t ≤ n ∧ i = .int .i64 t ∧ BI wr b r (lookR LV (ws, s) t).1 (lookR LV (ws, s) t).2 ∧ Upd (fun i => i = b ∨ i = r) w wr) (fun i _ => n - (intOf i).toNat)
  case atStart => exact ⟨0, Nat.zero_le _, rfl, H.out, Upd.refl _ _⟩
  case round =>
    clear c0
    obtain ⟨t, ht, rfl, hB, hU⟩ := hrel
    have HB2 := Lib.hid hB
    have HU := Lib.hid hU
    clear hB hU
    by_cases hlt : t < n
    case neg =>
      have k1 : ¬ (t : Int) < n := by omega
      obtain rfl : t = n := by omega
      go_wp2_with fail
      go_ret
      exact ⟨rfl, HB2.out, HU.out⟩
    have k1 : (t : Int) < n := by omega
    obtain ⟨p, hp⟩ : ∃ p, p = lookR LV (ws, s) t := ⟨_, rfl⟩
    have HP := Lib.hid hp
    have hlen : p.1.length = n := by rw [hp, lookR_length]; exact HN.out.symm
    have hfit : Fit p.1 p.2 := by rw [hp]; exact lookR_fit LV (p := (ws, s)) HF.out t
    obtain ⟨x, hx⟩ : ∃ x, p.1[t]? = some x := ⟨_, List.getElem?_eq_getElem (by omega)⟩
    have HX := Lib.hid hx
    have HB3 := Lib.hid (show BI wr b r p.1 p.2 by rw [hp]; exact HB2.out)
    clear HB2
    obtain ⟨v2, b1, b2, b3⟩ := HB3.out.ex
    obtain ⟨A3, c3, rfl, hA3⟩ := b2.slice
    obtain rfl := hA3 (by omega)
    have c0 := b1.blk.cell 0 (benc_row _ _)
    obtain ⟨r0, r1, r2, rf⟩ := b2.at hx
    obtain ⟨g, o, rfl, hg1, hg2, hg3⟩ := HL.out (by rw [← HN.out]; omega)
    have l0 := HU.out.cell_eq (p := ⟨g, o + t, none⟩) (fun h => h.elim hg1 hg2) (hg3 t (by rw [← HN.out]; omega))
    obtain ⟨hh, hhh⟩ : ∃ hh, hh = LV t := ⟨_, rfl⟩
    rw [← hhh] at l0
    have HE := Lib.hid (show lookR LV (ws, s) (t + 1) = lstep p t hh by rw [hhh, hp]; rfl)
    obtain ⟨ow, ln, hi⟩ := x
    have hw := hfit.wire t _ hx
    have hbw : b < wr.heap.size := HB3.out.ltb
    dsimp only at r0 r1 r2 hw
    rw [hlen] at c0
    have k4 : (t : Int) < (p.1.length : Int) := by omega
    have e0 : ∀ (l : List WR) (u : WS) (W : World), BI W b r l u → Upd (fun i => i = b ∨ i = r) w W → (lstep p t hh) = (l, u) → ((∃ t_1 : Nat, t_1 ≤ n ∧ Value.int .i64 ((t : Int) + 1) = .int .i64 t_1 ∧ BI W b r (lookR LV (ws, s) t_1).1 (lookR LV (ws, s) t_1).2 ∧ Upd (fun i => i = b ∨ i = r) w W)) :=
      fun l u W h1 h2 h3 => ⟨t + 1, by omega, rfl, by rw [HE.out, h3]; exact h1, h2⟩
    have E := Lib.hid e0
    clear e0 hp hx hfit hlen b1 b2 b3 hg3 hhh HL HN H HB
    by_cases q : ow < 0
    · go_wp2_with fail
      go_quiet ((first | (go_at_call 31; exact Calls.quiet_of_same (quiet_bad b ow (.inl q) _))))
      go_wp2_with fail
      exact ⟨E.out _ _ _ (HB3.out.non (Upd.refl _ _).drewN) HU.out.drewN (lstep_out HX.out (.inl q) hh), by simp only [intOf]; omega⟩
    obtain ⟨k, rfl⟩ : ∃ k : Nat, ow = k := ⟨ow.toNat, by omega⟩
    have hk : k < 8 := by omega
    by_cases q2 : ln < 0
    · go_wp2_with fail
      go_quiet ((first | (go_at_call 31; exact Calls.quiet_of_same (quiet_is b k hk _))))
      go_wp2_with fail
      exact ⟨E.out _ _ _ (HB3.out.non (Upd.refl _ _).drewN) HU.out.drewN (lstep_out HX.out (.inr q2) hh), by simp only [intOf]; omega⟩
    obtain ⟨L, rfl⟩ : ∃ L : Nat, ln = L := ⟨ln.toNat, by omega⟩
    have hL : L < 8 := by omega
    go_wp2_with fail
    go_quiet ((first | (go_at_call 31; exact Calls.quiet_of_same (quiet_is b k hk _))))
    obtain ⟨w2, hw2⟩ : ∃ x, x = wr.drewN nq := ⟨_, rfl⟩
    have HB4 := Lib.hid (show BI w2 b r p.1 p.2 by rw [hw2]; exact HB3.out.non (Upd.refl _ _).drewN)
    have HU4 := Lib.hid (show Upd (fun i => i = b ∨ i = r) w w2 by rw [hw2]; exact HU.out.drewN)
    rw [← hw2]
    clear hw2 c0 r0 r1 r2 rf l0
    obtain ⟨v4, b4, b5, _⟩ := HB4.out.ex
    obtain ⟨r0, r1, r2, rf⟩ := b5.at HX.out
    have c1 := b4.blk.cell _ (benc_cell v4 p.2 k hk).1
    have f1 := b4.blk.frozen (1 + k * 2)
    dsimp only at r0 r1 r2
    have z4 : IntKind.u8.wrap ((2 : Int) ^ L) = ((2 ^ L : Nat) : Int) := shl_byte L hL
    have hwt : p.2.wt k < 256 := HP.out ▸ (lookR_fit LV (p := (ws, s)) HF.out t).wt k
    have z5 := bits_or_byte (p.2.wt k) (2 ^ L) hwt (by have : 2 ^ L < 2 ^ 8 := Nat.pow_lt_pow_right (by decide) hL; omega)
    have z6 : ¬ (L : Int) < 0 := by omega
    have hrb : r ≠ b := by
      obtain ⟨v6, _, h6, h7⟩ := HB4.out.ex
      rcases h7 with h7 | ⟨h7, _⟩
      · exact h7
      · have := HX.out; rw [h7] at this; cases this
    clear b4 b5
    have E1 := lstep_in HX.out (by omega) (by omega) hh
    have E2 := Lib.hid E1
    clear E1
    by_cases q3 : hh = true ∧ hi = false
    · obtain ⟨rfl, rfl⟩ := q3
      have z7 : bits .or .u8 ((p.2.wt k : Nat) : Int) ((2 : Int) ^ L) = ((p.2.wt k ||| 2 ^ L : Nat) : Int) := by rw [← z5]; simp
      go_wp2_with fail
      go_region
      all_goals
        go_wp2_with fail
        exact ⟨E.out _ _ _ (BI.non (Upd.refl _ _).drew ((HB4.out.ones hk _).high HX.out true)) ((HU4.out.setCell (.inl (.inl rfl))).setCell (.inl (.inr rfl))).drew (by rw [E2.out]; rfl), by simp only [intOf]; omega⟩
    have q4 : (hh && !hi) = false := by revert q3; cases hh <;> cases hi <;> simp
    cases hh
    · go_wp2_with fail
      refine ⟨E.out _ _ _ (HB4.out.high HX.out false) (HU4.out.setCell (.inl (.inr rfl))) (by rw [E2.out, q4]; rfl), by simp only [intOf]; omega⟩
    · obtain rfl : hi = true := by revert q4; cases hi <;> simp
      go_wp2_with fail
      refine ⟨E.out _ _ _ (HB4.out.high HX.out true) (HU4.out.setCell (.inl (.inr rfl))) (by rw [E2.out, q4]; rfl), by simp only [intOf]; omega⟩
end Go.Proofs.Ytkhhmkcpbefadaa
