/- The document's Look and Bits. Conditions: the board is known; the levels' cells are known and no cells of the board. -/
import Derived.Test.YtkhhmkcpbefadaaIrqRefFns
namespace Go.Proofs.Ytkhhmkcpbefadaa
open Go.RowKit
theorem mod_succ_fin : ∀ (B : Fin 256) (t : Fin 8), (B : Nat) % 2 ^ ((t : Nat) + 1) = (B : Nat) % 2 ^ (t : Nat) + 2 ^ (t : Nat) * ((B : Nat).testBit t).toNat := by decide +kernel
set_option maxRecDepth 100000 in
set_option maxHeartbeats 4000000 in
theorem bits_is (B : Nat) (hB : B < 256) (y : Nat → Bool) (hy : ∀ t, t < 8 → B.testBit t = y t) (w : World) : Calls Try.prog 49 #[.agg #[.bool (y 0), .bool (y 1), .bool (y 2), .bool (y 3), .bool (y 4), .bool (y 5), .bool (y 6), .bool (y 7)]] w fun e w' => e = .returned (.int .u8 B) ∧ Upd Non w w' := by
  have HYY := Lib.hid hy
  clear hy
  go_enter Try.func49, Try.ntmps49
  go_wp2_with fail
  obtain ⟨b, hb⟩ : ∃ b, b = w.heap.size := ⟨_, rfl⟩
  obtain ⟨wa, hwa⟩ : ∃ x, x = w.alloc (.cells #[.bool (y 0), .bool (y 1), .bool (y 2), .bool (y 3), .bool (y 4), .bool (y 5), .bool (y 6), .bool (y 7)] 82) := ⟨_, rfl⟩
  have HB := Lib.hid (show ∀ t, t < 8 → wa.cell? ⟨b, t, none⟩ = some (.bool (B.testBit t)) from fun t ht => by
    rw [hwa, HYY.out t ht]
    refine Blk.cell (Blk.newAt hb) t ?_
    rcases lt8 ht with rfl | rfl | rfl | rfl | rfl | rfl | rfl | rfl
    all_goals rfl)
  have HU := Lib.hid (show Upd Non w wa by rw [hwa]; exact (Upd.refl _ _).alloc)
  rw [← hb, ← hwa]
  clear hb hwa HYY
  go_loopw [3, 4] (fun o i wr => ∃ t : Nat, t ≤ 8 ∧ i = .int .i64 t ∧ o = .int .u8 (B % 2 ^ t : Nat) ∧ wr = wa) (fun _ i _ => 8 - (intOf i).toNat)
  case atStart => exact ⟨0, by omega, rfl, by simp [Nat.mod_one], rfl⟩
  case round =>
    obtain ⟨t, ht, rfl, rfl, rfl⟩ := hrel
    by_cases hlt : t < 8
    case neg =>
      have k4 : ¬ (t : Int) < 8 := by omega
      obtain rfl : t = 8 := by omega
      have z8 : (B : Int) % 256 = (B : Int) := by omega
      go_wp2_with fail
      go_ret
      exact ⟨by simp, HU.out⟩
    have k4 : (t : Int) < 8 := by omega
    have k5 : (0 : Int) ≤ (t : Int) := by omega
    have k6 : (t : Int) ≤ 8 := by omega
    have c0 := HB.out t hlt
    have hs := mod_succ_fin ⟨B, hB⟩ ⟨t, hlt⟩
    simp only at hs
    obtain ⟨y, hy⟩ : ∃ y, y = B.testBit t := ⟨_, rfl⟩
    rw [← hy] at c0 hs
    have hlt2 : B % 2 ^ (t + 1) < 256 := Nat.lt_of_le_of_lt (Nat.mod_le _ _) hB
    have z4 : IntKind.u8.wrap ((2 : Int) ^ t) = ((2 ^ t : Nat) : Int) := shl_byte t hlt
    obtain ⟨X, hX⟩ : ∃ X, X = B % 2 ^ t := ⟨_, rfl⟩
    obtain ⟨Y, hY⟩ : ∃ Y, Y = B % 2 ^ (t + 1) := ⟨_, rfl⟩
    obtain ⟨Z, hZ⟩ : ∃ Z, Z = 2 ^ t := ⟨_, rfl⟩
    rw [← hX, ← hY, ← hZ] at hs
    rw [← hY] at hlt2
    rw [← hZ] at z4
    have HY := Lib.hid hY
    rw [← hX]
    clear hX hY hZ hy
    cases y
    · have hs2 : Y = X := by rw [hs]; simp
      subst hs2
      go_wp2_with fail
      exact ⟨⟨t + 1, by omega, rfl, by rw [HY.out], by first | rfl | trivial⟩, by simp only [intOf]; omega⟩
    · have hs2 : X + Z = Y := by rw [hs]; simp
      have z5 : IntKind.u8.wrap ((X : Int) + (Z : Int)) = (Y : Int) := by rw [← hs2, ← Int.natCast_add]; exact wrap_byte _ (by omega)
      clear hs hs2
      go_wp2_with fail
      exact ⟨⟨t + 1, by omega, rfl, by rw [← HY.out], by first | rfl | trivial⟩, by simp only [intOf]; omega⟩
theorem rlook_bad {ws : List WR} {f : Nat → Bool} {b r : Nat} (A : Option Addr) (n cc : Nat) (hne : n ≠ ws.length) (w : World) (h : RI w b r ws f) :
    Calls Try.prog 41 #[.pointer (some ⟨b, 0, none⟩), .slice A n cc] w fun e w' => e = .returned (.int .i64 2) ∧ w = w' := by
  obtain ⟨v, h1, h2, _⟩ := h.ex
  obtain ⟨A2, c2, rfl, _⟩ := h2.slice
  have c0 := h1.cell 0 (renc_row _ _)
  clear h h1 h2
  have k1 : ¬ (n : Int) = ws.length := by omega
  go_enter Try.func41, Try.ntmps41
  go_wp2_with fail
  go_ret
  exact ⟨rfl, rfl⟩
set_option maxRecDepth 100000 in
set_option maxHeartbeats 8000000 in
theorem rlook_is {ws : List WR} {s : WS} {f : Nat → Bool} {b r : Nat} (A : Option Addr) (cc : Nat) (LV : Nat → Bool) (hn : ws.length ≤ 100000) (w : World) (hf : Fit ws s) (hs : Bt s f) (h : RI w b r ws f)
    (hl : 0 < ws.length → ∃ g o, A = some ⟨g, o, none⟩ ∧ g ≠ b ∧ g ≠ r ∧ ∀ i, i < ws.length → w.cell? ⟨g, o + i, none⟩ = some (.bool (LV i))) :
    Calls Try.prog 41 #[.pointer (some ⟨b, 0, none⟩), .slice A ws.length cc] w fun e w' => e = .returned (.int .i64 0) ∧ (∃ f', RI w' b r (lookR LV (ws, s) ws.length).1 f' ∧ Bt (lookR LV (ws, s) ws.length).2 f') ∧ Upd (fun i => i = b ∨ i = r) w w' := by
  have H := Lib.hid h
  have HF := Lib.hid hf
  have HL := Lib.hid hl
  have HS := Lib.hid hs
  obtain ⟨v, h1, h2, _⟩ := h.ex
  obtain ⟨A2, c2, rfl, _⟩ := h2.slice
  have c0 := h1.cell 0 (renc_row _ _)
  clear h h1 h2 hf hl hs
  obtain ⟨n, hn0⟩ : ∃ n, n = ws.length := ⟨_, rfl⟩
  have HN := Lib.hid hn0
  rw [← hn0] at c0 hn ⊢
  clear hn0
  go_enter Try.func41, Try.ntmps41
  go_wp2_with fail
  go_loopw [5] (fun i wr => ∃ (t : Nat) (f' : Nat → Bool), t ≤ n ∧ i = .int .i64 t ∧ RI wr b r (lookR LV (ws, s) t).1 f' ∧ Bt (lookR LV (ws, s) t).2 f' ∧ Upd (fun i => i = b ∨ i = r) w wr) (fun i _ => n - (intOf i).toNat)
  case atStart => exact ⟨0, f, Nat.zero_le _, rfl, H.out, HS.out, Upd.refl _ _⟩
  case round =>
    clear c0
    obtain ⟨t, f', ht, rfl, hB, hS, hU⟩ := hrel
    have HB2 := Lib.hid hB
    have HS2 := Lib.hid hS
    have HU := Lib.hid hU
    clear hB hU hS
    by_cases hlt : t < n
    case neg =>
      have k1 : ¬ (t : Int) < n := by omega
      obtain rfl : t = n := by omega
      go_wp2_with fail
      go_ret
      exact ⟨rfl, ⟨f', HB2.out, HS2.out⟩, HU.out⟩
    have k1 : (t : Int) < n := by omega
    obtain ⟨p, hp⟩ : ∃ p, p = lookR LV (ws, s) t := ⟨_, rfl⟩
    have hlen : p.1.length = n := by rw [hp, lookR_length]; exact HN.out.symm
    have hfit : Fit p.1 p.2 := by rw [hp]; exact lookR_fit LV (p := (ws, s)) HF.out t
    obtain ⟨x, hx⟩ : ∃ x, p.1[t]? = some x := ⟨_, List.getElem?_eq_getElem (by omega)⟩
    have HX := Lib.hid hx
    have HB3 := Lib.hid (show RI wr b r p.1 f' by rw [hp]; exact HB2.out)
    have HS3 := Lib.hid (show Bt p.2 f' by rw [hp]; exact HS2.out)
    clear HB2 HS2
    obtain ⟨v2, b1, b2, b3⟩ := HB3.out.ex
    obtain ⟨A3, c3, rfl, hA3⟩ := b2.slice
    obtain rfl := hA3 (by omega)
    have c0 := b1.cell 0 (renc_row _ _)
    obtain ⟨r0, r1, r2, rf⟩ := b2.at hx
    obtain ⟨g, o, rfl, hg1, hg2, hg3⟩ := HL.out (by rw [← HN.out]; omega)
    have l0 := HU.out.cell_eq (p := ⟨g, o + t, none⟩) (fun h => h.elim hg1 hg2) (hg3 t (by rw [← HN.out]; omega))
    obtain ⟨hh, hhh⟩ : ∃ hh, hh = LV t := ⟨_, rfl⟩
    rw [← hhh] at l0
    have HE := Lib.hid (show lookR LV (ws, s) (t + 1) = lstep p t hh by rw [hhh, hp]; rfl)
    obtain ⟨ow, ln, hi⟩ := x
    have hw := hfit.wire t _ hx
    have hbw : b < wr.heap.size := HB3.out.ltb
    have hrw : r < wr.heap.size := HB3.out.lt
    have hgw : g < wr.heap.size := World.block_lt_of_cell? wr ⟨g, o + t, none⟩ l0
    have hrb : r ≠ b := HB3.out.ne hx
    dsimp only at r0 r1 r2 hw
    rw [hlen] at c0
    have E := Lib.hid (show ∀ (l : List WR) (u : WS) (f'' : Nat → Bool) (W : World), RI W b r l f'' → Bt u f'' → Upd (fun i => i = b ∨ i = r) w W → (lstep p t hh) = (l, u) → ((∃ (t_1 : Nat) (f' : Nat → Bool), t_1 ≤ n ∧ Value.int .i64 ((t : Int) + 1) = .int .i64 t_1 ∧ RI W b r (lookR LV (ws, s) t_1).1 f' ∧ Bt (lookR LV (ws, s) t_1).2 f' ∧ Upd (fun i => i = b ∨ i = r) w W)) from
      fun l u f'' W h1 h2 h3 h4 => ⟨t + 1, f'', by omega, rfl, by rw [HE.out, h4]; exact h1, by rw [HE.out, h4]; exact h2, h3⟩)
    clear hp hx hfit hlen b1 b2 b3 hg3 hhh HL HN H
    by_cases q : ow < 0
    · go_wp2_with fail
      exact ⟨E.out _ _ _ _ (HB3.out.non (by ((with_reducible repeat' first | exact Upd.refl _ _ | apply Upd.drew | apply Upd.drewN | apply Upd.alloc | refine Upd.setCell ?_ ?_) <;> first | (intro _ _ h; exact h) | (intro _ _ h; exact h.elim) | (intro i h1 h2; exfalso; (try simp only at h2); omega) | (left; rfl) | (right; dsimp only; omega) | (right; omega)))) HS3.out (by have h := HU.out; ((with_reducible repeat' first | exact Upd.refl _ _ | apply Upd.drew | apply Upd.drewN | apply Upd.alloc | refine Upd.setCell ?_ ?_ | refine Upd.call h ?_ ?_) <;> first | (intro _ _ h; exact h) | (intro _ _ h; exact h.elim) | (intro i h1 h2; exfalso; (try simp only at h2); omega) | (left; rfl) | (right; dsimp only; omega) | (right; omega))) (lstep_out HX.out (.inl q) hh), by simp only [intOf]; omega⟩
    obtain ⟨k, rfl⟩ : ∃ k : Nat, ow = k := ⟨ow.toNat, by omega⟩
    have hk : k < 8 := by omega
    by_cases q2 : ln < 0
    · go_wp2_with fail
      exact ⟨E.out _ _ _ _ (HB3.out.non (by ((with_reducible repeat' first | exact Upd.refl _ _ | apply Upd.drew | apply Upd.drewN | apply Upd.alloc | refine Upd.setCell ?_ ?_) <;> first | (intro _ _ h; exact h) | (intro _ _ h; exact h.elim) | (intro i h1 h2; exfalso; (try simp only at h2); omega) | (left; rfl) | (right; dsimp only; omega) | (right; omega)))) HS3.out (by have h := HU.out; ((with_reducible repeat' first | exact Upd.refl _ _ | apply Upd.drew | apply Upd.drewN | apply Upd.alloc | refine Upd.setCell ?_ ?_ | refine Upd.call h ?_ ?_) <;> first | (intro _ _ h; exact h) | (intro _ _ h; exact h.elim) | (intro i h1 h2; exfalso; (try simp only at h2); omega) | (left; rfl) | (right; dsimp only; omega) | (right; omega))) (lstep_out HX.out (.inr q2) hh), by simp only [intOf]; omega⟩
    obtain ⟨L, rfl⟩ : ∃ L : Nat, ln = L := ⟨ln.toNat, by omega⟩
    have hL : L < 8 := by omega
    have E1 := lstep_in HX.out (show (0 : Int) ≤ (k : Int) by omega) (show (0 : Int) ≤ (L : Int) by omega) hh
    have E2 := Lib.hid E1
    clear E1
    have k7 : (k : Int) < 8 := by omega
    have k8 : (L : Int) < 8 := by omega
    obtain ⟨v4, b4, b5, _⟩ := HB3.out.ex
    have c1 : wr.cell? ⟨b, 1 + k * 8 + L, none⟩ = some (.bool (f' (k * 8 + L))) := by rw [show 1 + k * 8 + L = 1 + (k * 8 + L) by omega]; exact b4.cell _ (renc_at v4 f' (by omega))
    have cf : wr.frozen? ⟨b, 1 + k * 8 + L, none⟩ = false := b4.frozen _
    clear b4 b5
    by_cases q3 : hh = true ∧ hi = false
    · obtain ⟨rfl, rfl⟩ := q3
      go_wp2_with fail
      go_region
      all_goals
        go_wp2_with fail
        go_region
        all_goals
          go_wp2_with fail
          refine ⟨E.out _ _ (updF f' (k * 8 + L) true) _ ?_ (HS3.out.up hk hL) ?_ (by rw [E2.out]; rfl), by simp only [intOf]; omega⟩
          · have h9 := HB3.out.bit (i := k * 8 + L) (by omega) true
            rw [show 1 + (k * 8 + L) = 1 + k * 8 + L by omega] at h9
            have h8 := h9.high HX.out true
            refine h8.non ?_
            ((with_reducible repeat' first | exact Upd.refl _ _ | apply Upd.drew | apply Upd.drewN | apply Upd.alloc | refine Upd.setCell ?_ ?_) <;> first | (intro _ _ h; exact h) | (intro _ _ h; exact h.elim) | (intro i h1 h2; exfalso; (try simp only at h2); omega) | (left; rfl) | (right; dsimp only; omega) | (right; omega))
          · have h := HU.out
            ((with_reducible repeat' first | exact h | apply Upd.drew | apply Upd.alloc | refine Upd.setCell ?_ ?_) <;> first | (left; left; rfl) | (left; right; rfl))
    have q4 : (hh && !hi) = false := by revert q3; cases hh <;> cases hi <;> simp
    cases hh
    · go_wp2_with fail
      go_region
      all_goals
        go_wp2_with fail
        refine ⟨E.out _ _ f' _ ?_ HS3.out ?_ (by rw [E2.out, q4]; rfl), by simp only [intOf]; omega⟩
        · refine (HB3.out.high HX.out false).non ?_
          ((with_reducible repeat' first | exact Upd.refl _ _ | apply Upd.drew | apply Upd.drewN | apply Upd.alloc | refine Upd.setCell ?_ ?_) <;> first | (intro _ _ h; exact h) | (intro _ _ h; exact h.elim) | (intro i h1 h2; exfalso; (try simp only at h2); omega) | (left; rfl) | (right; dsimp only; omega) | (right; omega))
        · have h := HU.out
          ((with_reducible repeat' first | exact h | apply Upd.drew | apply Upd.alloc | refine Upd.setCell ?_ ?_) <;> first | (left; left; rfl) | (left; right; rfl))
    · obtain rfl : hi = true := by revert q4; cases hi <;> simp
      go_wp2_with fail
      go_region
      all_goals
        go_wp2_with fail
        refine ⟨E.out _ _ f' _ ?_ HS3.out ?_ (by rw [E2.out, q4]; rfl), by simp only [intOf]; omega⟩
        · refine (HB3.out.high HX.out true).non ?_
          ((with_reducible repeat' first | exact Upd.refl _ _ | apply Upd.drew | apply Upd.drewN | apply Upd.alloc | refine Upd.setCell ?_ ?_) <;> first | (intro _ _ h; exact h) | (intro _ _ h; exact h.elim) | (intro i h1 h2; exfalso; (try simp only at h2); omega) | (left; rfl) | (right; dsimp only; omega) | (right; omega))
        · have h := HU.out
          ((with_reducible repeat' first | exact h | apply Upd.drew | apply Upd.alloc | refine Upd.setCell ?_ ?_) <;> first | (left; left; rfl) | (left; right; rfl))
end Go.Proofs.Ytkhhmkcpbefadaa
