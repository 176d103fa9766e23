/- TimerHits: what a timer is behind n ticks, and the law's walk. Conditions: the arguments are words. -/
import Derived.Test.YtmblplhehbdocaaTimerRef
namespace Go.Proofs.Ytmblplhehbdocaa
open Go.RowKit

theorem tickN_off {c l k h : Int} (hk : k % 2 = 0) : ∀ n, TS.tickN ⟨c, l, k, h⟩ n = ⟨c, l, k, h⟩
  | 0 => rfl
  | n + 1 => by
    show (TS.tickN ⟨c, l, k, h⟩ n).tick = _
    rw [tickN_off hk n, tick_even hk]
/-- .. one that is on, ahead of its first hit. -/
theorem tickN_up {c l k h : Int} (hk : ¬ k % 2 = 0) (hc : 0 ≤ c) (hl : l ≤ 4294967295) : ∀ n : Nat, c + n < l → TS.tickN ⟨c, l, k, h⟩ n = ⟨c + n, l, k, h⟩
  | 0, _ => by show (⟨c, l, k, h⟩ : TS) = _; simp
  | n + 1, hn => by
    show (TS.tickN ⟨c, l, k, h⟩ n).tick = _
    have hn' : c + (n : Int) + 1 < l := by push_cast at hn; omega
    rw [tickN_up hk hc hl n (by omega), tick_on (c' := c + n + 1) hk (by omega) (by omega)]
    push_cast; rw [Int.add_assoc]
/-- .. at its first hit. -/
theorem tickN_first {c l k : Int} (hk : ¬ k % 2 = 0) (hc : 0 ≤ c) (hl : l ≤ 4294967295) (f : Nat) (hf : c + ((f + 1 : Nat) : Int) = l) :
    TS.tickN ⟨c, l, k, 0⟩ (f + 1) = if k / 4 = 1 then ⟨0, l, k, 1⟩ else ⟨l, l, k - 1, 1⟩ := by
  show (TS.tickN ⟨c, l, k, 0⟩ f).tick = _
  have hf' : c + (f : Int) + 1 = l := by push_cast at hf; omega
  rw [tickN_up hk hc hl f (by omega)]
  split
  · rename_i h4
    exact tick_again hk (c' := l) (by omega) rfl h4 rfl
  · rename_i h4
    exact tick_once hk (c' := l) (by omega) rfl h4 rfl
theorem tickN_add (s : TS) (a : Nat) : ∀ b, s.tickN (a + b) = (s.tickN a).tickN b
  | 0 => rfl
  | b + 1 => by
    show (s.tickN (a + b)).tick = ((s.tickN a).tickN b).tick
    rw [tickN_add s a b]
theorem mod_step (a L : Nat) (hL : 0 < L) : (a % L + 1 = L ∧ (a + 1) % L = 0 ∧ (a + 1) / L = a / L + 1) ∨ (a % L + 1 < L ∧ (a + 1) % L = a % L + 1 ∧ (a + 1) / L = a / L) := by
  have h1 := Nat.mod_lt a hL
  have h2 := Nat.div_add_mod a L
  by_cases h : a % L + 1 = L
  · left
    have h3 : a + 1 = L * (a / L + 1) := by rw [Nat.mul_add, Nat.mul_one]; omega
    refine ⟨h, ?_, ?_⟩
    · rw [h3]; exact Nat.mul_mod_right _ _
    · rw [h3]; exact Nat.mul_div_cancel_left _ hL
  · right
    have h4 : a % L + 1 < L := by omega
    have h3 : a + 1 = (a % L + 1) + L * (a / L) := by omega
    refine ⟨h4, ?_, ?_⟩
    · rw [h3, Nat.add_mul_mod_self_left, Nat.mod_eq_of_lt h4]
    · rw [h3, Nat.add_mul_div_left _ _ hL, Nat.div_eq_of_lt h4, Nat.zero_add]
/-- .. that begins again, behind its first hit. -/
theorem tickN_again {k : Int} (L : Nat) (hL : 0 < L) (hl : (L : Int) ≤ 4294967295) (hk : ¬ k % 2 = 0) (h4 : k / 4 = 1) : ∀ a : Nat, a ≤ 1000 → TS.tickN ⟨0, L, k, 1⟩ a = ⟨((a % L : Nat) : Int), L, k, ((1 + a / L : Nat) : Int)⟩
  | 0, _ => by
    show (⟨0, L, k, 1⟩ : TS) = _
    rw [Nat.zero_mod, Nat.zero_div]; rfl
  | a + 1, ha => by
    show (TS.tickN ⟨0, L, k, 1⟩ a).tick = _
    rw [tickN_again L hL hl hk h4 a (by omega)]
    have hd : a / L ≤ a := Nat.div_le_self _ _
    rcases mod_step a L hL with ⟨h1, h2, h3⟩ | ⟨h1, h2, h3⟩
    · rw [h2, h3, tick_again hk (c' := (L : Int)) (g' := ((1 + (a / L + 1) : Nat) : Int)) (by omega) rfl h4 (by rw [if_pos (by omega)]; push_cast; omega)]
      rfl
    · rw [h2, h3, tick_on hk (c' := ((a % L + 1 : Nat) : Int)) (by omega) (by omega)]
/-- .. that does not, behind its hit. -/
theorem tickN_once {l k : Int} (hk : ¬ k % 2 = 0) (a : Nat) : TS.tickN ⟨l, l, k - 1, 1⟩ a = ⟨l, l, k - 1, 1⟩ := tickN_off (by omega) a

theorem hits_on {c l k : Int} (hk : ¬ k % 2 = 0) (hc : 0 ≤ c) (hl : l ≤ 4294967295) (hcl : c < l) (n : Nat) (hn : l - c ≤ n) (h4 : ¬ k / 4 = 1) : TS.tickN ⟨c, l, k, 0⟩ n = ⟨l, l, k - 1, 1⟩ := by
  obtain ⟨f, hf⟩ : ∃ f : Nat, l - c = ((f + 1 : Nat) : Int) := ⟨(l - c - 1).toNat, by omega⟩
  obtain ⟨a, rfl⟩ : ∃ a, n = (f + 1) + a := ⟨n - (f + 1), by omega⟩
  rw [tickN_add, tickN_first hk hc hl f (by omega), if_neg h4, tickN_once hk]
theorem hits_again {c l k : Int} (hk : ¬ k % 2 = 0) (hc : 0 ≤ c) (hl : l ≤ 4294967295) (hcl : c < l) (n : Nat) (hn : l - c ≤ n) (hn3 : n ≤ 1000) (h4 : k / 4 = 1) :
    TS.tickN ⟨c, l, k, 0⟩ n = ⟨((n : Int) - (l - c)) % l, l, k, 1 + ((n : Int) - (l - c)) / l⟩ := by
  obtain ⟨f, hf⟩ : ∃ f : Nat, l - c = ((f + 1 : Nat) : Int) := ⟨(l - c - 1).toNat, by omega⟩
  obtain ⟨a, rfl⟩ : ∃ a, n = (f + 1) + a := ⟨n - (f + 1), by omega⟩
  obtain ⟨L, rfl⟩ := Int.eq_ofNat_of_zero_le (show 0 ≤ l by omega)
  have e : (((f + 1 + a : Nat) : Int) - ((L : Int) - c)) = (a : Int) := by omega
  rw [tickN_add, tickN_first hk hc hl f (by omega), if_pos h4, e]
  exact tickN_again L (by omega) hl hk h4 a (by omega)

set_option maxRecDepth 100000 in
set_option maxHeartbeats 8000000 in
theorem hits_law (c l k m : Int) (hc : 0 ≤ c ∧ c ≤ 4294967295) (hl : 0 ≤ l ∧ l ≤ 4294967295) (hk : 0 ≤ k ∧ k ≤ 4294967295) (w : World) :
    Calls Try.prog 3 #[.int .u32 c, .int .u32 l, .int .u32 k, .int .i64 m] w fun e w' => e = .returned (.bool true) ∧ Upd Non w w' := by
  have hm : k.tmod 8 = k % 8 := Int.tmod_eq_emod_of_nonneg hk.1
  have hm2 : (k % 8) % 4294967296 = k % 8 := by omega
  have HK := Lib.hid hk
  have hk8 : 0 ≤ k % 8 ∧ k % 8 < 8 := by omega
  have hok : TS.ok ⟨c, l, k % 8, 0⟩ := ⟨hc, hl, hk8, by dsimp only; omega⟩
  have HOK := Lib.hid hok
  obtain ⟨n, hn⟩ : ∃ n : Nat, m % 300 = (n : Int) := ⟨(m % 300).toNat, by omega⟩
  have hn3 : n < 300 := by omega
  have HN := Lib.hid hn
  have HC := Lib.hid hc
  have HL := Lib.hid hl
  clear hc hl hk hok hn
  go_enter Try.func3, Try.ntmps3
  go_wp2_with fail
  refine (awake_spec _).mono ?_
  rintro e w1 ⟨rfl, U1⟩
  have HU1 := Lib.hid U1
  clear U1
  go_wp2_with fail
  refine (pick_spec m 300 (by decide) (by decide) _).mono ?_
  rintro e w2 ⟨rfl, rfl⟩
  rw [HN.out]
  go_wp2_with fail
  refine (of_spec c l k 0 HK.out _).mono ?_
  rintro e w2 ⟨b, rfl, hb, hB, U2⟩
  have hbw : w.heap.size ≤ b := Nat.le_trans HU1.out.size hb
  have HB2 := Lib.hid (show TBlk w2 b (TS.tickN ⟨c, l, k % 8, 0⟩ 0) from hB)
  have HU2 := Lib.hid (by have h := HU1.out; ((with_reducible repeat' first | exact Upd.refl _ _ | apply Upd.drew | apply Upd.drewN | apply Upd.alloc | refine Upd.setCell ?_ ?_ | refine Upd.call U2 ?_ ?_ | refine Upd.call h ?_ ?_) <;> first | (intro _ _ h; exact h) | (intro _ _ h; exact h.elim) | (intro i h1 h2; exfalso; (try simp only at h2); omega) | (left; rfl) | (right; dsimp only; omega) | (right; omega)) : Upd Non w w2)
  clear hB U2 hb HU1
  go_wp2_with fail
  go_loopw [12] (fun i wr => ∃ j : Nat, j ≤ n ∧ i = .int .i64 j ∧ TBlk wr b (TS.tickN ⟨c, l, k % 8, 0⟩ j) ∧ Upd Non w wr) (fun i _ => n - (intOf i).toNat)
  case atStart => exact ⟨0, by omega, rfl, HB2.out, HU2.out⟩
  case round =>
    clear HB2 HU2
    obtain ⟨j, hj, rfl, hB, hU⟩ := hrel
    have HB := Lib.hid hB
    have HU := Lib.hid hU
    clear hB hU
    by_cases hlt : j < n
    · have k1 : (j : Int) < n := by omega
      go_wp2_with fail
      refine (tick_spec b _ (TS.tickN_ok HOK.out j) _ HB.out).mono ?_
      rintro e w4 ⟨rfl, hB4, U4⟩
      have HB4 := Lib.hid hB4
      have HU4 := Lib.hid (by have h := HU.out; ((with_reducible repeat' first | exact Upd.refl _ _ | apply Upd.drew | apply Upd.drewN | apply Upd.alloc | refine Upd.setCell ?_ ?_ | refine Upd.call U4 ?_ ?_ | refine Upd.call h ?_ ?_) <;> first | (intro _ _ h; exact h) | (intro _ _ h; exact h.elim) | (intro i h1 h2; exfalso; (try simp only at h2); omega) | (left; rfl) | (right; dsimp only; omega) | (right; omega)) : Upd Non w w4)
      clear hB4 U4
      go_wp2_with fail
      go_roundw
      case rel => exact ⟨j + 1, by omega, by go_num, HB4.out, HU4.out⟩
      case measure => simp [intOf]; omega
    · have k1 : ¬ (j : Int) < n := by omega
      obtain rfl : j = n := by omega
      clear hlt hj
      go_wp2_with fail
      refine (state_spec b _ _ HB.out).mono ?_
      rintro e w4 ⟨rfl, U4⟩
      have HU4 := Lib.hid (by have h := HU.out; ((with_reducible repeat' first | exact Upd.refl _ _ | apply Upd.drew | apply Upd.drewN | apply Upd.alloc | refine Upd.setCell ?_ ?_ | refine Upd.call U4 ?_ ?_ | refine Upd.call h ?_ ?_) <;> first | (intro _ _ h; exact h) | (intro _ _ h; exact h.elim) | (intro i h1 h2; exfalso; (try simp only at h2); omega) | (left; rfl) | (right; dsimp only; omega) | (right; omega)) : Upd Non w w4)
      have HB4 := Lib.hid (TBlk.upd U4 HB.out id)
      clear U4 HU HB
      have h2 : (k % 8).tmod 2 = k % 8 % 2 := Int.tmod_eq_emod_of_nonneg hk8.1
      by_cases h0 : k % 8 % 2 = 0
      · have e1 := tickN_off (c := c) (l := l) (h := 0) h0 j
        rw [e1]
        unfold TS.vals
        generalize k % 8 = kk at *
        clear hm hm2 e1 HB4
        go_wp2_with fail
        go_ret
        exact ⟨rfl, by have h := HU4.out; ((with_reducible repeat' first | exact Upd.refl _ _ | apply Upd.drew | apply Upd.drewN | apply Upd.alloc | refine Upd.setCell ?_ ?_ | refine Upd.call h ?_ ?_) <;> first | (intro _ _ h; exact h) | (intro _ _ h; exact h.elim) | (intro i h1 h2; exfalso; (try simp only at h2); omega) | (left; rfl) | (right; dsimp only; omega) | (right; omega))⟩
      · have h21 : (k % 8).tmod 2 = 1 := by omega
        clear h2
        by_cases hcl : c < l
        · have z0 : ¬ l ≤ c := by omega
          have hc0 := HC.out
          have hl0 := HL.out
          have g1 : IntKind.i64.wrap (l - c) = l - c := IntWalk.i64_in _ (by omega)
          by_cases hn1 : (j : Int) < l - c
          · have e1 := tickN_up (c := c) (l := l) (h := 0) h0 hc0.1 hl0.2 j (by omega)
            rw [e1] at HB4 ⊢
            have g2 : (j : Int) % 4294967296 = (j : Int) := by omega
            have g3 : (c + (j : Int)) % 4294967296 = c + (j : Int) := by omega
            unfold TS.vals
            generalize k % 8 = kk at *
            clear hm hm2 e1 HB4 h0
            go_wp2_with fail
            go_ret
            exact ⟨rfl, by have h := HU4.out; ((with_reducible repeat' first | exact Upd.refl _ _ | apply Upd.drew | apply Upd.drewN | apply Upd.alloc | refine Upd.setCell ?_ ?_ | refine Upd.call h ?_ ?_) <;> first | (intro _ _ h; exact h) | (intro _ _ h; exact h.elim) | (intro i h1 h2; exfalso; (try simp only at h2); omega) | (left; rfl) | (right; dsimp only; omega) | (right; omega))⟩
          · by_cases h4 : k % 8 / 4 = 1
            · have e1 := hits_again (c := c) (l := l) h0 hc0.1 hl0.2 hcl j (by omega) (by omega) h4
              rw [e1] at HB4 ⊢
              obtain ⟨z, hz⟩ : ∃ z, z = (j : Int) - (l - c) := ⟨_, rfl⟩
              have hz0 : 0 ≤ z ∧ z < 300 := by omega
              rw [← hz]
              have f1 : IntKind.i64.wrap ((j : Int) - (l - c)) = z := by rw [← hz]; exact IntWalk.i64_in _ (by omega)
              have f2 : z.tdiv l = z / l := Int.tdiv_eq_ediv_of_nonneg hz0.1
              have f5 : z.tmod l = z % l := Int.tmod_eq_emod_of_nonneg hz0.1
              have hr : 0 ≤ z % l ∧ z % l < l := ⟨Int.emod_nonneg _ (by omega), Int.emod_lt_of_pos _ (by omega)⟩
              have hq : 0 ≤ z / l ∧ z / l ≤ z := ⟨Int.ediv_nonneg hz0.1 hl0.1, Int.ediv_le_self _ hz0.1⟩
              generalize z % l = r at *
              generalize z / l = q at *
              have f3 : IntKind.i64.wrap q = q := IntWalk.i64_in _ (by omega)
              have f4 : IntKind.i64.wrap (1 + q) = 1 + q := IntWalk.i64_in _ (by omega)
              have f6 : IntKind.i64.wrap r = r := IntWalk.i64_in _ (by omega)
              have f7 : r % 4294967296 = r := by omega
              have f8 : (1 + q) % 4294967296 = 1 + q := by omega
              have f9 : ¬ l = 0 := by omega
              have h44 : ¬ k % 8 < 4 := by omega
              unfold TS.vals
              generalize k % 8 = kk at *
              clear hm hm2 e1 HB4 h0 h4 hz
              go_wp2_with fail
              go_region
              all_goals
                go_wp2_with fail
                go_ret
                exact ⟨rfl, by have h := HU4.out; ((with_reducible repeat' first | exact Upd.refl _ _ | apply Upd.drew | apply Upd.drewN | apply Upd.alloc | refine Upd.setCell ?_ ?_ | refine Upd.call h ?_ ?_) <;> first | (intro _ _ h; exact h) | (intro _ _ h; exact h.elim) | (intro i h1 h2; exfalso; (try simp only at h2); omega) | (left; rfl) | (right; dsimp only; omega) | (right; omega))⟩
            · have e1 := hits_on (c := c) (l := l) h0 hc0.1 hl0.2 hcl j (by omega) h4
              rw [e1] at HB4 ⊢
              unfold TS.vals
              generalize k % 8 = kk at *
              have hkk : kk = 1 ∨ kk = 3 := by omega
              clear hm hm2 e1 h0 h4
              rcases hkk with rfl | rfl
              · go_wp2_with fail
                refine (line_spec b _ ⟨hl0, hl0, by dsimp only; omega, by dsimp only; omega⟩ _ (TBlk.upd (S := Non) (by ((with_reducible repeat' first | exact Upd.refl _ _ | apply Upd.drew | apply Upd.drewN | apply Upd.alloc | refine Upd.setCell ?_ ?_) <;> first | (intro _ _ h; exact h) | (intro _ _ h; exact h.elim) | (intro i h1 h2; exfalso; (try simp only at h2); omega) | (left; rfl) | (right; dsimp only; omega) | (right; omega))) HB4.out id)).mono ?_
                rintro e w5 ⟨rfl, rfl⟩
                rw [show TS.line ⟨l, l, 1 - 1, 1⟩ = false from rfl]
                go_wp2_with fail
                go_ret
                exact ⟨rfl, by have h := HU4.out; ((with_reducible repeat' first | exact Upd.refl _ _ | apply Upd.drew | apply Upd.drewN | apply Upd.alloc | refine Upd.setCell ?_ ?_ | refine Upd.call h ?_ ?_) <;> first | (intro _ _ h; exact h) | (intro _ _ h; exact h.elim) | (intro i h1 h2; exfalso; (try simp only at h2); omega) | (left; rfl) | (right; dsimp only; omega) | (right; omega))⟩
              · go_wp2_with fail
                refine (line_spec b _ ⟨hl0, hl0, by dsimp only; omega, by dsimp only; omega⟩ _ (TBlk.upd (S := Non) (by ((with_reducible repeat' first | exact Upd.refl _ _ | apply Upd.drew | apply Upd.drewN | apply Upd.alloc | refine Upd.setCell ?_ ?_) <;> first | (intro _ _ h; exact h) | (intro _ _ h; exact h.elim) | (intro i h1 h2; exfalso; (try simp only at h2); omega) | (left; rfl) | (right; dsimp only; omega) | (right; omega))) HB4.out id)).mono ?_
                rintro e w5 ⟨rfl, rfl⟩
                rw [show TS.line ⟨l, l, 3 - 1, 1⟩ = true from rfl]
                go_wp2_with fail
                go_ret
                exact ⟨rfl, by have h := HU4.out; ((with_reducible repeat' first | exact Upd.refl _ _ | apply Upd.drew | apply Upd.drewN | apply Upd.alloc | refine Upd.setCell ?_ ?_ | refine Upd.call h ?_ ?_) <;> first | (intro _ _ h; exact h) | (intro _ _ h; exact h.elim) | (intro i h1 h2; exfalso; (try simp only at h2); omega) | (left; rfl) | (right; dsimp only; omega) | (right; omega))⟩
        · have z0 : l ≤ c := by omega
          clear hm hm2 HB4
          unfold TS.vals
          go_wp2_with fail
          go_ret
          exact ⟨rfl, by have h := HU4.out; ((with_reducible repeat' first | exact Upd.refl _ _ | apply Upd.drew | apply Upd.drewN | apply Upd.alloc | refine Upd.setCell ?_ ?_ | refine Upd.call h ?_ ?_) <;> first | (intro _ _ h; exact h) | (intro _ _ h; exact h.elim) | (intro i h1 h2; exfalso; (try simp only at h2); omega) | (left; rfl) | (right; dsimp only; omega) | (right; omega))⟩
end Go.Proofs.Ytmblplhehbdocaa
