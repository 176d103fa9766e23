/- A row of words written over; is a mailbox the document's? Conditions: the row is the call's own; both mailboxes are known, and agree. -/
import Derived.Test.YtlpfjjhjfmcfmaaMboxRef
import Derived.Test.YtlpfjjhjfmcfmaaMboxOX
import Derived.Test.YtlpfjjhjfmcfmaaGrow
namespace Go.Proofs.Ytlpfjjhjfmcfmaa
open Go.RowKit
theorem mark_m (i : Nat) (hi : i ≤ 1000) (w : World) : Calls Try.prog 55 #[.int .i64 2, .int .i64 i] w fun e w' => e = .returned (.int .i64 (9000027 + i)) ∧ w' = w := by
  go_enter Try.func55, Try.ntmps55
  go_wp2
  go_ret
  exact ⟨rfl, rfl⟩
set_option maxRecDepth 100000 in
set_option maxHeartbeats 8000000 in
theorem over_m {base : Nat} {v : Value} {xs : List Int} (w : World) (h : WRow w base v xs) (hn : xs.length ≤ 100) :
    Calls Try.prog 29 #[v] w fun e w' => e = .returned (.tuple #[]) ∧ Upd (fun i => v.ownBlock = some i) w w' := by
  rcases h.2 with ⟨rfl, h0⟩ | ⟨g, cap, cur, rfl, _, hh, h3, h4, h5, _⟩
  · go_enter Try.func29, Try.ntmps29
    go_wp2_with fail
    go_loopw [3] (fun i wr => i = .int .i64 0 ∧ wr = w) (fun i _ => 0)
    case atStart => exact ⟨rfl, rfl⟩
    case round =>
      obtain ⟨rfl, rfl⟩ := hrel
      go_wp2_with fail
      go_end0
      exact ⟨rfl, Upd.refl _ _⟩
  · have hB : Blk w g cur 28 := hh
    have HB := Lib.hid hB
    obtain ⟨n, hn'⟩ : ∃ n, n = xs.length := ⟨_, rfl⟩
    rw [← hn'] at h3 hn ⊢
    unfold maxLen at h4
    have hsz : cur.size = cap := by omega
    clear hh hB h5 hn'
    by_cases hc : (cap : Int) ≤ (n : Int) + 12
    · have k6 : min (cap : Int) ((n : Int) + 12) = cap := by omega
      go_enter Try.func29, Try.ntmps29
      go_wp2_with fail
      go_loopw [3] (fun i wr => ∃ (t : Nat) (cur : Array Value), t ≤ cap ∧ i = .int .i64 t ∧ Blk wr g cur 28 ∧ cur.size = cap ∧ Upd (fun i => i = g) w wr) (fun i _ => cap - (intOf i).toNat)
      case atStart => exact ⟨0, cur, Nat.zero_le _, rfl, HB.out, hsz, Upd.refl _ _⟩
      case round =>
        clear HB hsz
        obtain ⟨t, cu2, ht, rfl, hB, hs2, hU⟩ := hrel
        have HB2 := Lib.hid hB
        have HU := Lib.hid hU
        have hgw : g < wr.heap.size := hB.lt
        clear hB hU
        by_cases hlt : t < cap
        case neg =>
          have k1 : ¬ (t : Int) < (cap : Nat) := by omega
          go_wp2_with fail
          go_end0
          exact ⟨rfl, HU.out.mono fun i _ h => by rw [h]; rfl⟩
        have k1 : (t : Int) < (cap : Nat) := by omega
        obtain ⟨u0, e0⟩ : ∃ u, cu2[t]? = some u := ⟨_, Array.getElem?_eq_getElem (by omega)⟩
        have c0 := HB2.out.cell _ e0
        have f0 := HB2.out.frozen t
        clear e0
        go_wp2_with fail
        refine (mark_m t (by omega) _).mono ?_
        rintro e w3 ⟨rfl, rfl⟩
        go_wp2_with fail
        refine ⟨⟨t + 1, _, by omega, rfl, HB2.out.set, by rw [Array.size_setIfInBounds]; exact hs2, by have h := HU.out; ((with_reducible repeat' first | exact Upd.refl _ _ | apply Upd.drew | apply Upd.drewN | apply Upd.alloc | refine Upd.setCell ?_ ?_ | refine Upd.call h ?_ ?_) <;> first | (intro _ _ h; exact h) | (intro _ _ h; exact h.elim) | (intro i h1 h2; exfalso; (try simp only at h2); omega) | (left; rfl) | (right; dsimp only; omega) | (right; omega))⟩, by simp only [intOf]; omega⟩
    · have k6 : min (cap : Int) ((n : Int) + 12) = (n : Int) + 12 := by omega
      have k7 : (n : Int) + 12 < cap := by omega
      have k8 : (n : Int) + 12 ≤ cap := by omega
      have k9 : ¬ (cap : Int) ≤ (n : Int) + 12 := hc
      go_enter Try.func29, Try.ntmps29
      go_wp2_with fail
      try rw [show ((n : Int) + 12).toNat = n + 12 by omega]
      go_loopw [3] (fun i wr => ∃ (t : Nat) (cur : Array Value), t ≤ n + 12 ∧ i = .int .i64 t ∧ Blk wr g cur 28 ∧ cur.size = cap ∧ Upd (fun i => i = g) w wr) (fun i _ => n + 12 - (intOf i).toNat)
      case atStart => exact ⟨0, cur, Nat.zero_le _, rfl, HB.out, hsz, Upd.refl _ _⟩
      case round =>
        clear HB hsz
        obtain ⟨t, cu2, ht, rfl, hB, hs2, hU⟩ := hrel
        have HB2 := Lib.hid hB
        have HU := Lib.hid hU
        have hgw : g < wr.heap.size := hB.lt
        clear hB hU
        by_cases hlt : t < n + 12
        case neg =>
          have k1 : ¬ (t : Int) < (n : Int) + 12 := by omega
          go_wp2_with fail
          go_end0
          exact ⟨rfl, HU.out.mono fun i _ h => by rw [h]; rfl⟩
        have k1 : (t : Int) < (n : Int) + 12 := by omega
        obtain ⟨u0, e0⟩ : ∃ u, cu2[t]? = some u := ⟨_, Array.getElem?_eq_getElem (by omega)⟩
        have c0 := HB2.out.cell _ e0
        have f0 := HB2.out.frozen t
        clear e0
        go_wp2_with fail
        refine (mark_m t (by omega) _).mono ?_
        rintro e w3 ⟨rfl, rfl⟩
        go_wp2_with fail
        refine ⟨⟨t + 1, _, by omega, rfl, HB2.out.set, by rw [Array.size_setIfInBounds]; exact hs2, by have h := HU.out; ((with_reducible repeat' first | exact Upd.refl _ _ | apply Upd.drew | apply Upd.drewN | apply Upd.alloc | refine Upd.setCell ?_ ?_ | refine Upd.call h ?_ ?_) <;> first | (intro _ _ h; exact h) | (intro _ _ h; exact h.elim) | (intro i h1 h2; exfalso; (try simp only at h2); omega) | (left; rfl) | (right; dsimp only; omega) | (right; omega))⟩, by simp only [intOf]; omega⟩
theorem read_pure {w W : World} {b f g : Nat} {s : MS} {r : Int} (hr : r ≠ 0) (h : MX w W b f g s) : Calls Try.prog 20 #[.pointer (some ⟨b, 0, none⟩), .int .i64 r] W fun e w' => e = .returned (.int .u32 (s.rd r)) ∧ Upd Non W w' :=
  (read_m r W h.m).mono fun _ _ h => ⟨h.1, h.2.2 hr⟩
set_option maxRecDepth 100000 in
set_option maxHeartbeats 8000000 in
theorem same_m {w W : World} {b f g c : Nat} {v : Value} {s : MS} (h : MX w W b f g s) (hr : RX w W c v s) : Calls Try.prog 28 #[.pointer (some ⟨b, 0, none⟩), .pointer (some ⟨c, 0, none⟩)] W fun e w' => e = .returned (.bool true) ∧ Upd Non W w' := by
  have H := Lib.hid h
  have hl := h.m.le
  obtain ⟨A2, k2, rfl⟩ := hr.Q.slice
  have HR := Lib.hid hr
  clear h hr
  go_enter Try.func28, Try.ntmps28
  go_wp2_with fail
  refine (state_m _ H.out.m).mono ?_
  rintro e w1 ⟨v1, r1, rfl, hi, hU⟩
  obtain ⟨A1, k1, rfl⟩ := hi.slice
  have HU1 := Lib.hid hU
  have HI1 := Lib.hid hi
  clear hU hi
  go_upto_region 2 with fail
  obtain ⟨w2, hw2⟩ : ∃ x, x = w1.alloc (.cells #[.slice A1 s.xs.length k1, .int .u32 s.ctrl, .int .u32 s.lost] 39) := ⟨_, rfl⟩
  obtain ⟨bs, hbs⟩ : ∃ x, x = w1.heap.size := ⟨_, rfl⟩
  have hk2 : Blk w2 bs #[.slice A1 s.xs.length k1, .int .u32 s.ctrl, .int .u32 s.lost] 39 := by rw [hw2]; exact Blk.newAt hbs
  have hu2 : Upd Non w1 w2 := by rw [hw2]; ((with_reducible repeat' first | exact Upd.refl _ _ | apply Upd.drew | apply Upd.drewN | apply Upd.alloc | refine Upd.setCell ?_ ?_) <;> first | (intro _ _ h; exact h) | (intro _ _ h; exact h.elim) | (intro i h1 h2; exfalso; (try simp only at h2); omega) | (left; rfl) | (right; dsimp only; omega) | (right; omega))
  have HU2 := Lib.hid (Upd.call hu2 HU1.out fun _ _ h => h)
  have HI2 := Lib.hid (HI1.out.non hu2)
  have HM2 := Lib.hid (H.out.non HU2.out)
  have HR2 := Lib.hid (HR.out.non HU2.out)
  have a0 : ∀ G : Grown w2, G.W.cell? ⟨bs, 0, none⟩ = some (.slice A1 s.xs.length k1) := fun G => G.cell (hk2.cell 0 rfl)
  have a1 : ∀ G : Grown w2, G.W.cell? ⟨bs, 1, none⟩ = some (.int .u32 s.ctrl) := fun G => G.cell (hk2.cell 1 rfl)
  have a2 : ∀ G : Grown w2, G.W.cell? ⟨bs, 2, none⟩ = some (.int .u32 s.lost) := fun G => G.cell (hk2.cell 2 rfl)
  have b0 : ∀ G : Grown w2, G.W.cell? ⟨c, 0, none⟩ = some (.slice A2 s.xs.length k2) := fun G => G.cell (HR2.out.B.cell 0 rfl)
  have b1 : ∀ G : Grown w2, G.W.cell? ⟨c, 1, none⟩ = some (.int .u32 s.ctrl) := fun G => G.cell (HR2.out.B.cell 1 rfl)
  have b2 : ∀ G : Grown w2, G.W.cell? ⟨c, 2, none⟩ = some (.int .u32 s.lost) := fun G => G.cell (HR2.out.B.cell 2 rfl)
  rw [← hw2, ← hbs]
  clear hw2 hbs hk2 hu2 HU1 HI1 H HR
  have P23 := Lib.hid (fun G : Grown w2 => same_limbs A1 A2 s.xs.length k1 k2 (fun j => s.xs.getD j 0) (by omega) G.W (HI2.out.non G.h).at (HR2.out.non G.h).Q.at)
  have P21 := Lib.hid (fun G : Grown w2 => line_m G.W (HM2.out.non G.h).m)
  have P54 := Lib.hid (fun G : Grown w2 => rline_m (HR2.out.non G.h))
  have Q1 := Lib.hid (fun G : Grown w2 => read_pure (r := 1) (by decide) (HM2.out.non G.h))
  have Q2 := Lib.hid (fun G : Grown w2 => read_pure (r := 2) (by decide) (HM2.out.non G.h))
  have Q3 := Lib.hid (fun G : Grown w2 => read_pure (r := 3) (by decide) (HM2.out.non G.h))
  have R1 := Lib.hid (fun G : Grown w2 => rread_m (rg := 1) (by decide) (HR2.out.non G.h) hl)
  have R2 := Lib.hid (fun G : Grown w2 => rread_m (rg := 2) (by decide) (HR2.out.non G.h) hl)
  have R3 := Lib.hid (fun G : Grown w2 => rread_m (rg := 3) (by decide) (HR2.out.non G.h) hl)
  generalize s.rd 1 = x1 at *
  generalize s.rd 2 = x2 at *
  generalize s.rd 3 = x3 at *
  generalize (decide (s.ctrl = 1) && decide (0 < s.xs.length)) = dd at *
  have e0 : (s.ctrl == s.ctrl) = true := by simp
  have e4 : (s.lost == s.lost) = true := by simp
  have e1 : (x1 == x1) = true := by simp
  have e2 : (x2 == x2) = true := by simp
  have e3 : (x3 == x3) = true := by simp
  have e5 : (dd == dd) = true := by simp
  refine wp_region_grow (by kernel_rfl) (by kernel_rfl) ?_
  repeat go_big_quiet_step ((first
    | (go_at_call 23; with_reducible exact Grown.call (P23.out _))
    | (go_at_call 21; with_reducible exact Grown.call_same (P21.out _))
    | (go_at_call 54; with_reducible exact Grown.call_same (P54.out _))
    | (go_at_call 20; first | with_reducible exact Grown.call (Q1.out _) | with_reducible exact Grown.call (Q2.out _) | with_reducible exact Grown.call (Q3.out _))
    | (go_at_call 26; first | with_reducible exact Grown.call_same (R1.out _) | with_reducible exact Grown.call_same (R2.out _) | with_reducible exact Grown.call_same (R3.out _))))
  refine wpQuiet_nil ?_
  rintro ⟨w9, hU9⟩
  have HU9 := Lib.hid (Upd.call hU9 HU2.out fun _ _ h => h)
  show Exit.then _ _ _ _ w9
  clear hU9
  go_wp2_with fail
  go_ret
  exact ⟨rfl, HU9.out⟩
end Go.Proofs.Ytlpfjjhjfmcfmaa
