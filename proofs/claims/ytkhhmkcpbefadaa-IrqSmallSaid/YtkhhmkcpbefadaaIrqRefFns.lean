/- Contracts of the document's small functions. Conditions: the board is known. -/
import Derived.Test.YtkhhmkcpbefadaaIrqRef
import Derived.Test.YtkhhmkcpbefadaaIrqApartPlain
namespace Go.Proofs.Ytkhhmkcpbefadaa
open Go.RowKit
theorem world_is (k : Int) (w : World) : Calls Try.prog 52 #[.int .i64 k] w fun e w' => e = .returned (.bool (decide (¬ badW k))) ∧ w = w' := by
  by_cases h : badW k
  · rw [decide_eq_false (fun h2 => h2 h)]
    rcases h with h | h
    · have h1 : ¬ (0 : Int) ≤ k := by omega
      go_enter Try.func52, Try.ntmps52
      go_wp2
      go_ret
      exact ⟨rfl, rfl⟩
    · have h1 : (0 : Int) ≤ k := by omega
      have h2 : ¬ k < 8 := by omega
      go_enter Try.func52, Try.ntmps52
      go_wp2
      go_ret
      exact ⟨rfl, rfl⟩
  · rw [decide_eq_true h]
    have h1 : (0 : Int) ≤ k := by unfold badW at h; omega
    have h2 : k < 8 := by unfold badW at h; omega
    clear h
    go_enter Try.func52, Try.ntmps52
    go_wp2
    go_ret
    exact ⟨rfl, rfl⟩
theorem world_no {k : Int} (h : badW k) (w : World) : Calls Try.prog 52 #[.int .i64 k] w fun e w' => e = .returned (.bool false) ∧ w = w' := by
  have := world_is k w
  rwa [decide_eq_false (fun h2 => h2 h)] at this
theorem world_yes {k : Nat} (h : k < 8) (w : World) : Calls Try.prog 52 #[.int .i64 k] w fun e w' => e = .returned (.bool true) ∧ w = w' := by
  have := world_is k w
  rwa [decide_eq_true (show ¬ badW k by unfold badW; omega)] at this
section
variable {ws : List WR} {f : Nat → Bool} {b r : Nat}
theorem wire_no {k : Int} (hk : k < 0 ∨ (ws.length : Int) ≤ k) (w : World) (h : RI w b r ws f) : Calls Try.prog 51 #[.pointer (some ⟨b, 0, none⟩), .int .i64 k] w fun e w' => e = .returned (.bool false) ∧ w = w' := by
  obtain ⟨v, h1, h2, _⟩ := h.ex
  obtain ⟨A2, c2, rfl, _⟩ := h2.slice
  have c0 := h1.cell 0 (renc_row _ _)
  clear h h1 h2
  rcases hk with hk | hk
  · have k1 : ¬ (0 : Int) ≤ k := by omega
    go_enter Try.func51, Try.ntmps51
    go_wp2
    go_ret
    exact ⟨rfl, rfl⟩
  · have k1 : (0 : Int) ≤ k := by omega
    have k2 : ¬ k < (ws.length : Int) := by omega
    go_enter Try.func51, Try.ntmps51
    go_wp2
    go_ret
    exact ⟨rfl, rfl⟩
theorem wire_yes {k : Nat} (hk : k < ws.length) (w : World) (h : RI w b r ws f) : Calls Try.prog 51 #[.pointer (some ⟨b, 0, none⟩), .int .i64 k] w fun e w' => e = .returned (.bool true) ∧ w = w' := by
  obtain ⟨v, h1, h2, _⟩ := h.ex
  obtain ⟨A2, c2, rfl, _⟩ := h2.slice
  have c0 := h1.cell 0 (renc_row _ _)
  clear h h1 h2
  have k1 : (0 : Int) ≤ (k : Int) := by omega
  have k2 : (k : Int) < (ws.length : Int) := by omega
  go_enter Try.func51, Try.ntmps51
  go_wp2
  go_ret
  exact ⟨rfl, rfl⟩
theorem rdrop_is (n : Int) (w : World) (h : RI w b r ws f) : Calls Try.prog 44 #[.pointer (some ⟨b, 0, none⟩), .int .i64 n] w fun e w' => e = .returned (.int .i64 (dropR ws n)) ∧ RI w' b r (dropW ws n) f ∧ Upd (fun i => i = r) w w' := by
  have H := Lib.hid h
  unfold dropR dropW
  by_cases hn : n < 0 ∨ (ws.length : Int) ≤ n
  · rw [if_pos hn, if_pos hn]
    clear h
    go_enter Try.func44, Try.ntmps44
    go_wp2_with (go_at_call 51; refine (wire_no hn _ H.out).mono ?_; rintro e w1 ⟨rfl, rfl⟩)
    go_ret
    exact ⟨rfl, H.out, Upd.refl _ _⟩
  · rw [if_neg hn, if_neg hn]
    obtain ⟨k, rfl⟩ : ∃ k : Nat, n = k := ⟨n.toNat, by omega⟩
    obtain ⟨x, hx⟩ : ∃ x, ws[k]? = some x := ⟨_, List.getElem?_eq_getElem (by omega)⟩
    obtain ⟨v, h1, h2, _⟩ := h.ex
    obtain ⟨A2, c2, rfl, hA⟩ := h2.slice
    obtain rfl := hA (by omega)
    have c0 := h1.cell 0 (renc_row _ _)
    obtain ⟨r0, r1, r2, rf⟩ := h2.at hx
    have f0 := h2.frz hx (k * 3)
    have f1 := h2.frz hx (k * 3 + 1)
    have k1 : (k : Int) < (ws.length : Int) := by omega
    have hk : k < ws.length := by omega
    have HX := Lib.hid hx
    clear h h1 h2 hx hn
    go_enter Try.func44, Try.ntmps44
    go_wp2_with (go_at_call 51; refine (wire_yes hk _ H.out).mono ?_; rintro e w1 ⟨rfl, rfl⟩)
    go_ret
    exact ⟨rfl, H.out.wire HX.out (-1) (-1) false, by ((with_reducible repeat' first | exact Upd.refl _ _ | apply Upd.drew | apply Upd.drewN | apply Upd.alloc | refine Upd.setCell ?_ ?_) <;> first | (intro _ _ h; exact h) | (intro _ _ h; exact h.elim) | (intro i h1 h2; exfalso; (try simp only at h2); omega) | (left; rfl) | (right; dsimp only; omega) | (right; omega))⟩
theorem rown_is (n k : Int) (w : World) (h : RI w b r ws f) : Calls Try.prog 43 #[.pointer (some ⟨b, 0, none⟩), .int .i64 n, .int .i64 k] w fun e w' => e = .returned (.int .i64 (ownR ws n k)) ∧ RI w' b r (ownW ws n k) f ∧ Upd (fun i => i = r) w w' := by
  have H := Lib.hid h
  by_cases hn : n < 0 ∨ (ws.length : Int) ≤ n
  · have e1 : ownR ws n k = 6 := by
      unfold ownR
      by_cases hk : badW k
      · exact if_pos hk
      · rw [if_neg hk]; exact if_pos hn
    have e2 : ownW ws n k = ws := by
      unfold ownW
      split
      · rfl
      · cases hx : ws[n.toNat]? with
        | none => rfl
        | some x =>
          have := (List.getElem?_eq_some_iff.1 hx).1
          exact if_pos (by omega)
    rw [e1, e2]
    clear h e1 e2
    go_enter Try.func43, Try.ntmps43
    go_wp2_with (go_at_call 51; refine (wire_no hn _ H.out).mono ?_; rintro e w1 ⟨rfl, rfl⟩)
    go_ret
    exact ⟨rfl, H.out, Upd.refl _ _⟩
  · obtain ⟨j, rfl⟩ : ∃ j : Nat, n = j := ⟨n.toNat, by omega⟩
    have hj : j < ws.length := by omega
    obtain ⟨x, hx⟩ : ∃ x, ws[j]? = some x := ⟨_, List.getElem?_eq_getElem hj⟩
    by_cases hk : badW k
    · rw [show ownR ws j k = 6 from if_pos hk, show ownW ws j k = ws from if_pos hk]
      clear h hn
      go_enter Try.func43, Try.ntmps43
      go_wp2_with (first | (go_at_call 51; refine (wire_yes hj _ H.out).mono ?_; rintro e w1 ⟨rfl, rfl⟩) | (go_at_call 52; refine (world_no hk _).mono ?_; rintro e w1 ⟨rfl, rfl⟩))
      go_ret
      exact ⟨rfl, H.out, Upd.refl _ _⟩
    · have e1 : ownR ws j k = 0 := by
        unfold ownR
        rw [if_neg hk]
        exact if_neg hn
      have e2 : ownW ws j k = ws.set j ⟨k, x.ln, false⟩ := by
        unfold ownW
        rw [if_neg hk, Int.toNat_natCast, hx]
        exact if_neg (by omega)
      rw [e1, e2]
      obtain ⟨k, rfl, hk8⟩ := good_nat hk
      obtain ⟨v, h1, h2, _⟩ := h.ex
      obtain ⟨A2, c2, rfl, hA⟩ := h2.slice
      obtain rfl := hA (by omega)
      have c0 := h1.cell 0 (renc_row _ _)
      obtain ⟨r0, r1, r2, rf⟩ := h2.at hx
      have f0 := h2.frz hx (j * 3)
      have f1 := h2.frz hx (j * 3 + 1)
      have k1 : (j : Int) < (ws.length : Int) := by omega
      have HX := Lib.hid hx
      clear h h1 h2 hx hn e1 e2 hk
      go_enter Try.func43, Try.ntmps43
      go_wp2_with (first | (go_at_call 51; refine (wire_yes hj _ H.out).mono ?_; rintro e w1 ⟨rfl, rfl⟩) | (go_at_call 52; refine (world_yes hk8 _).mono ?_; rintro e w1 ⟨rfl, rfl⟩))
      go_region
      all_goals
        go_wp2_with fail
        go_ret
        exact ⟨rfl, RI.non (Upd.refl _ _).drew (H.out.wire HX.out (k : Int) x.ln false), by ((with_reducible repeat' first | exact Upd.refl _ _ | apply Upd.drew | apply Upd.drewN | apply Upd.alloc | refine Upd.setCell ?_ ?_) <;> first | (intro _ _ h; exact h) | (intro _ _ h; exact h.elim) | (intro i h1 h2; exfalso; (try simp only at h2); omega) | (left; rfl) | (right; dsimp only; omega) | (right; omega))⟩
theorem rroute_is (n k : Int) (w : World) (h : RI w b r ws f) : Calls Try.prog 45 #[.pointer (some ⟨b, 0, none⟩), .int .i64 n, .int .i64 k] w fun e w' => e = .returned (.int .i64 (routeR ws n k)) ∧ RI w' b r (routeW ws n k) f ∧ Upd (fun i => i = r) w w' := by
  have H := Lib.hid h
  by_cases hn : n < 0 ∨ (ws.length : Int) ≤ n
  · have e1 : routeR ws n k = 6 := by
      unfold routeR
      by_cases hk : mayL k
      · rw [if_pos hk]; exact if_pos hn
      · exact if_neg hk
    rw [e1, route_out hn]
    clear h e1
    go_enter Try.func45, Try.ntmps45
    go_wp2_with (go_at_call 51; refine (wire_no hn _ H.out).mono ?_; rintro e w1 ⟨rfl, rfl⟩)
    go_ret
    exact ⟨rfl, H.out, Upd.refl _ _⟩
  · obtain ⟨j, rfl⟩ : ∃ j : Nat, n = j := ⟨n.toNat, by omega⟩
    have hj : j < ws.length := by omega
    obtain ⟨x, hx⟩ : ∃ x, ws[j]? = some x := ⟨_, List.getElem?_eq_getElem hj⟩
    rw [route_at hx]
    by_cases hk : mayL k
    case neg =>
      rw [show routeR ws j k = 6 from if_neg hk, if_neg hk]
      have hk2 : k < -1 ∨ (¬ k < -1 ∧ 7 < k) := by unfold mayL at hk; omega
      clear h hn hk
      rcases hk2 with hk2 | ⟨hk2, hk3⟩
      all_goals
        go_enter Try.func45, Try.ntmps45
        go_wp2_with (go_at_call 51; refine (wire_yes hj _ H.out).mono ?_; rintro e w1 ⟨rfl, rfl⟩)
        go_ret
        exact ⟨rfl, H.out, Upd.refl _ _⟩
    · have e1 : routeR ws j k = 0 := by
        unfold routeR
        rw [if_pos hk]
        exact if_neg hn
      rw [e1, if_pos hk]
      obtain ⟨hk1, hk2⟩ := hk
      have hk3 : ¬ k < -1 := by omega
      have hk4 : ¬ 7 < k := by omega
      obtain ⟨v, h1, h2, _⟩ := h.ex
      obtain ⟨A2, c2, rfl, hA⟩ := h2.slice
      obtain rfl := hA (by omega)
      have c0 := h1.cell 0 (renc_row _ _)
      obtain ⟨r0, r1, r2, rf⟩ := h2.at hx
      have f0 := h2.frz hx (j * 3)
      have f1 := h2.frz hx (j * 3 + 1)
      have k1 : (j : Int) < (ws.length : Int) := by omega
      have HX := Lib.hid hx
      clear h h1 h2 hx hn e1
      go_enter Try.func45, Try.ntmps45
      go_wp2_with (go_at_call 51; refine (wire_yes hj _ H.out).mono ?_; rintro e w1 ⟨rfl, rfl⟩)
      go_region
      all_goals
        go_wp2_with fail
        go_ret
        exact ⟨rfl, RI.non (Upd.refl _ _).drew (H.out.wire HX.out x.ow k false), by ((with_reducible repeat' first | exact Upd.refl _ _ | apply Upd.drew | apply Upd.drewN | apply Upd.alloc | refine Upd.setCell ?_ ?_) <;> first | (intro _ _ h; exact h) | (intro _ _ h; exact h.elim) | (intro i h1 h2; exfalso; (try simp only at h2); omega) | (left; rfl) | (right; dsimp only; omega) | (right; omega))⟩
theorem rmask_bad {k : Int} (m : Nat) (hk : badW k) (w : World) : Calls Try.prog 46 #[.pointer (some ⟨b, 0, none⟩), .int .i64 k, .int .u8 m] w fun e w' => e = .returned (.int .i64 6) ∧ w = w' := by
  go_enter Try.func46, Try.ntmps46
  go_wp2_with (go_at_call 52; refine (world_no hk _).mono ?_; rintro e w1 ⟨rfl, rfl⟩)
  go_ret
  exact ⟨rfl, rfl⟩
set_option maxHeartbeats 4000000 in
theorem rmask_is {s : WS} {k m : Nat} (hk : k < 8) (hs : Bt s f) (w : World) (h : RI w b r ws f) : Calls Try.prog 46 #[.pointer (some ⟨b, 0, none⟩), .int .i64 k, .int .u8 m] w fun e w' => e = .returned (.int .i64 0) ∧ (∃ f', RI w' b r ws f' ∧ Bt (s.setL k m) f') ∧ Upd (fun i => i = b) w w' := by
  have H := Lib.hid h
  have HS := Lib.hid hs
  clear h hs
  have k1 : (k : Int) < 8 := by omega
  have k0 : (0 : Int) ≤ (k : Int) := by omega
  go_enter Try.func46, Try.ntmps46
  go_wp2_with (go_at_call 52; refine (world_yes hk _).mono ?_; rintro e w1 ⟨rfl, rfl⟩)
  go_loopw [7] (fun i wr => ∃ (t : Nat) (f' : Nat → Bool), t ≤ 8 ∧ i = .int .i64 t ∧ RI wr b r ws f' ∧ (∀ j, j < t → f' (64 + k * 8 + j) = m.testBit j) ∧ (∀ i, i < 64 + k * 8 ∨ 64 + k * 8 + t ≤ i → f' i = f i) ∧ Upd (fun i => i = b) w wr) (fun i _ => 8 - (intOf i).toNat)
  case atStart => exact ⟨0, f, by omega, rfl, H.out, fun j h => absurd h (by omega), fun _ _ => rfl, Upd.refl _ _⟩
  case round =>
    clear H
    obtain ⟨t, f', ht, rfl, hB, h1, h2, hU⟩ := hrel
    have HB := Lib.hid hB
    have HP := Lib.hid (And.intro h1 h2)
    have HU := Lib.hid hU
    clear hB h1 h2 hU
    by_cases hlt : t < 8
    case neg =>
      have k4 : ¬ (t : Int) < 8 := by omega
      obtain rfl : t = 8 := by omega
      go_wp2_with fail
      go_ret
      refine ⟨rfl, ⟨f', HB.out, ⟨fun k' j hk' hj => ?_, fun k' j hk' hj => ?_⟩⟩, HU.out⟩
      · show (s.wt k').testBit j = _
        rw [HP.out.2 _ (by omega)]; exact HS.out.wt k' j hk' hj
      · show (if k' = k then m else s.le k').testBit j = _
        by_cases e : k' = k
        · subst e; rw [if_pos rfl]; exact (HP.out.1 j hj).symm
        · rw [if_neg e, HP.out.2 _ (by omega)]; exact HS.out.le k' j hk' hj
    have k4 : (t : Int) < 8 := by omega
    have k5 : (0 : Int) ≤ (t : Int) := by omega
    have k6 : (t : Int) ≤ 8 := by omega
    obtain ⟨bit, hbit⟩ : ∃ bit, m.testBit t = bit := ⟨_, rfl⟩
    have z := lets_at hbit
    have HBit := Lib.hid hbit
    clear hbit
    obtain ⟨v, b1, b2, _⟩ := HB.out.ex
    have e0 : 65 + k * 8 + t = 1 + (64 + k * 8 + t) := by omega
    have c1 : wr.cell? ⟨b, 65 + k * 8 + t, none⟩ = some (.bool (f' (64 + k * 8 + t))) := by rw [e0]; exact b1.cell _ (renc_at v f' (by omega))
    have cf : wr.frozen? ⟨b, 65 + k * 8 + t, none⟩ = false := b1.frozen _
    have HE := Lib.hid e0
    clear b1 b2 e0
    go_wp2_with fail
    go_region
    all_goals
      go_wp2_with fail
      refine ⟨⟨t + 1, updF f' (64 + k * 8 + t) bit, by omega, rfl, ?_, ?_, ?_, ?_⟩, by simp only [intOf]; omega⟩
      · rw [HE.out]; exact RI.non (Upd.refl _ _).drew (HB.out.bit (by omega) bit)
      · intro j hj
        unfold updF
        by_cases e : j = t
        · subst e; rw [if_pos rfl]; exact HBit.out.symm
        · rw [if_neg (by omega)]; exact HP.out.1 j (by omega)
      · intro i hi
        unfold updF
        rw [if_neg (by omega)]; exact HP.out.2 i (by omega)
      · have h := HU.out
        ((with_reducible repeat' first | exact Upd.refl _ _ | apply Upd.drew | apply Upd.drewN | apply Upd.alloc | refine Upd.setCell ?_ ?_ | refine Upd.call h ?_ ?_) <;> first | (intro _ _ h; exact h) | (intro _ _ h; exact h.elim) | (intro i h1 h2; exfalso; (try simp only at h2); omega) | (left; rfl) | (right; dsimp only; omega) | (right; omega))
theorem rcall_bad {k : Int} (hk : badW k) (w : World) : Calls Try.prog 47 #[.pointer (some ⟨b, 0, none⟩), .int .i64 k] w fun e w' => e = .returned (.tuple #[.int .i64 0, .bool false]) ∧ w = w' := by
  go_enter Try.func47, Try.ntmps47
  go_wp2_with fail
  go_loopw [6] (fun i wr => i = .int .i64 0 ∧ wr = w) (fun _ _ => 0)
  case atStart => exact ⟨rfl, rfl⟩
  case round =>
    obtain ⟨rfl, rfl⟩ := hrel
    go_wp2_with (go_at_call 52; refine (world_no hk _).mono ?_; rintro e w1 ⟨rfl, rfl⟩)
    go_ret2
    exact ⟨rfl, rfl⟩
set_option maxHeartbeats 4000000 in
theorem rcall_is {s : WS} {k : Nat} (hk : k < 8) (hs : Bt s f) (hw : s.wt k < 256) (hl : s.le k < 256) (w : World) (h : RI w b r ws f) : Calls Try.prog 47 #[.pointer (some ⟨b, 0, none⟩), .int .i64 k] w fun e w' => e = .returned (.tuple #[.int .i64 (callR s k).1, .bool (callR s k).2]) ∧ (∃ f', RI w' b r ws f' ∧ Bt (callS s k) f') ∧ Upd (fun i => i = b) w w' := by
  have H := Lib.hid h
  have HS := Lib.hid hs
  have HWL := Lib.hid (And.intro hw hl)
  clear h hs hw hl
  have k1 : (k : Int) < 8 := by omega
  have k0 : (0 : Int) ≤ (k : Int) := by omega
  go_enter Try.func47, Try.ntmps47
  go_wp2_with fail
  go_loopw [6] (fun i wr => ∃ t : Nat, t ≤ 8 ∧ i = .int .i64 t ∧ wr = w ∧ ∀ j, j < t → (s.wt k &&& s.le k).testBit j = false) (fun i _ => 8 - (intOf i).toNat)
  case atStart => exact ⟨0, by omega, rfl, rfl, fun j h => absurd h (by omega)⟩
  case round =>
    obtain ⟨t, ht, rfl, rfl, h1⟩ := hrel
    have HP := Lib.hid h1
    clear h1
    by_cases hlt : t < 8
    case neg =>
      have k4 : ¬ (t : Int) < 8 := by omega
      obtain rfl : t = 8 := by omega
      have hz : s.wt k &&& s.le k = 0 := byte_eq (Nat.lt_of_le_of_lt Nat.and_le_left HWL.out.1) (by decide) fun j hj => by rw [HP.out j hj]; simp
      have HR := Lib.hid (show callR s k = (0, false) ∧ callS s k = s from ⟨by unfold callR; rw [if_pos hz], by unfold callS; rw [if_pos hz]⟩)
      clear hz
      go_wp2_with fail
      go_ret2
      rw [HR.out.1, HR.out.2]
      exact ⟨rfl, ⟨f, H.out, HS.out⟩, Upd.refl _ _⟩
    have k4 : (t : Int) < 8 := by omega
    have k5 : (0 : Int) ≤ (t : Int) := by omega
    obtain ⟨v, b1, b2, _⟩ := H.out.ex
    have c1 : wr.cell? ⟨b, 1 + k * 8 + t, none⟩ = some (.bool (f (k * 8 + t))) := by rw [show 1 + k * 8 + t = 1 + (k * 8 + t) by omega]; exact b1.cell _ (renc_at v f (by omega))
    have c2 : wr.cell? ⟨b, 65 + k * 8 + t, none⟩ = some (.bool (f (64 + k * 8 + t))) := by rw [show 65 + k * 8 + t = 1 + (64 + k * 8 + t) by omega]; exact b1.cell _ (renc_at v f (by omega))
    have cf : wr.frozen? ⟨b, 1 + k * 8 + t, none⟩ = false := b1.frozen _
    have hand : (s.wt k &&& s.le k).testBit t = (f (k * 8 + t) && f (64 + k * 8 + t)) := by rw [Nat.testBit_and, HS.out.wt k t hk hlt, HS.out.le k t hk hlt]
    have HA := Lib.hid hand
    clear b1 b2 hand
    obtain ⟨y1, hy1⟩ : ∃ y, y = f (k * 8 + t) := ⟨_, rfl⟩
    obtain ⟨y2, hy2⟩ : ∃ y, y = f (64 + k * 8 + t) := ⟨_, rfl⟩
    rw [← hy1] at c1 HA
    rw [← hy2] at c2 HA
    clear hy1 hy2
    cases y1 <;> cases y2
    case true.true =>
      have hlow : low (s.wt k &&& s.le k) = t := low_fin ⟨_, Nat.lt_of_le_of_lt Nat.and_le_left HWL.out.1⟩ ⟨t, hlt⟩ (by rw [HA.out]; rfl) fun j hj => HP.out j hj
      have hne : s.wt k &&& s.le k ≠ 0 := fun h0 => by have := HA.out; rw [h0] at this; simp at this
      have HR := Lib.hid (show callR s k = ((t : Int), true) ∧ callS s k = s.setW k (clr (s.wt k) t) from ⟨by unfold callR; rw [if_neg hne, hlow], by unfold callS; rw [if_neg hne, hlow]⟩)
      clear hlow hne
      go_wp2_with (go_at_call 52; refine (world_yes hk _).mono ?_; rintro e w1 ⟨rfl, rfl⟩)
      go_ret2
      rw [HR.out.1, HR.out.2]
      refine ⟨rfl, ⟨_, ?_, HS.out.down hk hlt HWL.out.1⟩, by ((with_reducible repeat' first | exact Upd.refl _ _ | apply Upd.drew | apply Upd.drewN | apply Upd.alloc | refine Upd.setCell ?_ ?_) <;> first | (intro _ _ h; exact h) | (intro _ _ h; exact h.elim) | (intro i h1 h2; exfalso; (try simp only at h2); omega) | (left; rfl) | (right; dsimp only; omega) | (right; omega))⟩
      have h9 := H.out.bit (i := k * 8 + t) (by omega) false
      rwa [show 1 + (k * 8 + t) = 1 + k * 8 + t by omega] at h9
    all_goals
      go_wp2_with (go_at_call 52; refine (world_yes hk _).mono ?_; rintro e w1 ⟨rfl, rfl⟩)
      refine ⟨⟨t + 1, by omega, rfl, by first | rfl | trivial, fun j hj => ?_⟩, by simp only [intOf]; omega⟩
      by_cases e : j < t
      · exact HP.out j e
      · rw [show j = t by omega, HA.out]; rfl
end
end Go.Proofs.Ytkhhmkcpbefadaa
