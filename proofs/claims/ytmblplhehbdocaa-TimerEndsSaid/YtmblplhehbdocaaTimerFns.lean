/- Contracts of the timer's functions. Conditions: the timer's block is known whole, its words are words, its Ctrl has three bits. -/
import Derived.Test.YtmblplhehbdocaaTMap
import Derived.Laws.BitsAllLaws
import Derived.Deep.DeepCutAuto
namespace Go.Proofs.Ytmblplhehbdocaa
open Go.RowKit

/-- A timer's words. -/
structure TS where
  c : Int
  l : Int
  k : Int
  h : Int
structure TS.ok (s : TS) : Prop where
  c : 0 ≤ s.c ∧ s.c ≤ 4294967295
  l : 0 ≤ s.l ∧ s.l ≤ 4294967295
  k : 0 ≤ s.k ∧ s.k < 8
  h : 0 ≤ s.h ∧ s.h ≤ 4294967295
def TS.vals (s : TS) : Array Value := #[.int .u32 s.c, .int .u32 s.l, .int .u32 s.k, .int .u32 s.h]
def TBlk (w : World) (b : Nat) (s : TS) : Prop := Blk w b #[.int .u32 s.c, .int .u32 s.l, .int .u32 s.k, .int .u32 s.h, .bool true] 78
theorem TBlk.blk {w : World} {b : Nat} {s : TS} (h : TBlk w b s) : Blk w b #[.int .u32 s.c, .int .u32 s.l, .int .u32 s.k, .int .u32 s.h, .bool true] 78 := h
theorem TBlk.upd {S : Nat → Prop} {w w' : World} {b : Nat} {s : TS} (u : Upd S w w') (h : TBlk w b s) (hs : ¬ S b) : TBlk w' b s := Blk.upd u h hs

theorem lt8 {k : Int} (h : 0 ≤ k ∧ k < 8) : k = 0 ∨ k = 1 ∨ k = 2 ∨ k = 3 ∨ k = 4 ∨ k = 5 ∨ k = 6 ∨ k = 7 := by omega
theorem and_1 {k : Int} (h : 0 ≤ k ∧ k < 8) : bits .and .u32 k 1 = k % 2 := by rcases lt8 h with rfl | rfl | rfl | rfl | rfl | rfl | rfl | rfl <;> decide
theorem and_2 {k : Int} (h : 0 ≤ k ∧ k < 8) : bits .and .u32 k 2 = k / 2 % 2 * 2 := by rcases lt8 h with rfl | rfl | rfl | rfl | rfl | rfl | rfl | rfl <;> decide
theorem and_4 {k : Int} (h : 0 ≤ k ∧ k < 8) : bits .and .u32 k 4 = k / 4 * 4 := by rcases lt8 h with rfl | rfl | rfl | rfl | rfl | rfl | rfl | rfl <;> decide
theorem andNot_1 {k : Int} (h : 0 ≤ k ∧ k < 8) : bits .andNot .u32 k 1 = k / 2 * 2 := by rcases lt8 h with rfl | rfl | rfl | rfl | rfl | rfl | rfl | rfl <;> decide
theorem and_7 {x : Int} (h : 0 ≤ x ∧ x ≤ 4294967295) : bits .and .u32 x 7 = x % 8 := by
  obtain ⟨n, rfl⟩ := Int.eq_ofNat_of_zero_le h.1
  rw [show (7 : Int) = ((7 : Nat) : Int) from rfl, u32_and_nat n 7 (by omega) (by decide), show (7 : Nat) = 2 ^ 3 - 1 from rfl, Nat.and_two_pow_sub_one_eq_mod]
  rfl

def bitB (k bit : Int) : Bool := if bit = 1 then k % 2 == 1 else if bit = 2 then k / 2 % 2 == 1 else k / 4 == 1

theorem there_spec (b : Nat) (s : TS) (w : World) (hb : TBlk w b s) : Calls Try.prog 63 #[.pointer (some ⟨b, 0, none⟩)] w fun e w' => e = .returned (.bool true) ∧ w = w' := by
  have h4 : w.cell? ⟨b, 4, none⟩ = some (.bool true) := hb.cell 4 rfl
  clear hb
  go_enter Try.func63, Try.ntmps63
  go_wp2
  go_ret
  exact ⟨rfl, rfl⟩
theorem is_spec (b : Nat) (s : TS) (bit : Int) (hbit : bit = 1 ∨ bit = 2 ∨ bit = 4) (hk : 0 ≤ s.k ∧ s.k < 8) (w : World) (hb : TBlk w b s) :
    Calls Try.prog 64 #[.pointer (some ⟨b, 0, none⟩), .int .u32 bit] w fun e w' => e = .returned (.bool (bitB s.k bit)) ∧ w = w' := by
  have h2 : w.cell? ⟨b, 2, none⟩ = some (.int .u32 s.k) := hb.cell 2 rfl
  obtain ⟨z, hz⟩ : ∃ z, bits .and .u32 s.k bit = z := ⟨_, rfl⟩
  have hq : bitB s.k bit = (z != 0) := by
    rcases hbit with rfl | rfl | rfl
    · rw [← hz, and_1 hk]; unfold bitB; rcases lt8 hk with h | h | h | h | h | h | h | h <;> rw [h] <;> rfl
    · rw [← hz, and_2 hk]; unfold bitB; rcases lt8 hk with h | h | h | h | h | h | h | h <;> rw [h] <;> rfl
    · rw [← hz, and_4 hk]; unfold bitB; rcases lt8 hk with h | h | h | h | h | h | h | h <;> rw [h] <;> rfl
  rw [hq]
  clear hb hq hbit hk
  go_enter Try.func64, Try.ntmps64
  go_wp2
  go_ret
  exact ⟨rfl, rfl⟩
theorem add_spec (x : Int) (w : World) : Calls Try.prog 65 #[.int .u32 x, .int .u32 1] w fun e w' => ∃ q, e = .returned (.tuple #[.int .u32 ((x + 1) % 4294967296), .bool q]) ∧ w = w' := by
  go_enter Try.func65, Try.ntmps65
  go_wp2
  all_goals
    go_ret2
    exact ⟨_, rfl, rfl⟩

theorem of_spec (c l k h : Int) (hk : 0 ≤ k ∧ k ≤ 4294967295) (w : World) :
    Calls Try.prog 17 #[.agg #[.int .u32 c, .int .u32 l, .int .u32 k, .int .u32 h]] w fun e w' => ∃ b, e = .returned (.pointer (some ⟨b, 0, none⟩)) ∧ w.heap.size ≤ b ∧ TBlk w' b ⟨c, l, k % 8, h⟩ ∧ Upd Non w w' := by
  have h7 := and_7 hk
  clear hk
  go_enter Try.func17, Try.ntmps17
  go_wp2
  go_ret
  refine ⟨_, rfl, ?_, Blk.newAt (by simp), by ((with_reducible repeat' first | exact Upd.refl _ _ | apply Upd.drew | apply Upd.drewN | apply Upd.alloc | refine Upd.setCell ?_ ?_) <;> first | (intro _ _ h; exact h) | (intro _ _ h; exact h.elim) | (intro i h1 h2; exfalso; (try simp only at h2); omega) | (left; rfl) | (right; dsimp only; omega) | (right; omega))⟩
  omega
theorem new_spec (w : World) :
    Calls Try.prog 39 #[] w fun e w' => ∃ b, e = .returned (.pointer (some ⟨b, 0, none⟩)) ∧ w.heap.size ≤ b ∧ TBlk w' b ⟨0, 0, 0, 0⟩ ∧ Upd Non w w' := by
  go_enter Try.func39, Try.ntmps39
  go_wp2_with fail
  refine (of_spec 0 0 0 0 (by decide) _).mono ?_
  rintro e w1 ⟨b, rfl, hb, hB, U⟩
  have HB := Lib.hid hB
  have HU := Lib.hid U
  clear hB U
  go_wp2_with fail
  go_ret
  exact ⟨_, rfl, hb, HB.out, HU.out⟩
theorem state_spec (b : Nat) (s : TS) (w : World) (hb : TBlk w b s) :
    Calls Try.prog 19 #[.pointer (some ⟨b, 0, none⟩)] w fun e w' => e = .returned (.agg s.vals) ∧ Upd Non w w' := by
  have HB := Lib.hid hb
  have c0 : w.cell? ⟨b, 0, none⟩ = some (.int .u32 s.c) := hb.cell 0 rfl
  have c1 : w.cell? ⟨b, 1, none⟩ = some (.int .u32 s.l) := hb.cell 1 rfl
  have c2 : w.cell? ⟨b, 2, none⟩ = some (.int .u32 s.k) := hb.cell 2 rfl
  have c3 : w.cell? ⟨b, 3, none⟩ = some (.int .u32 s.h) := hb.cell 3 rfl
  have hlt := hb.lt
  clear hb
  go_enter Try.func19, Try.ntmps19
  go_wp2_with (go_at_call 63; refine (there_spec b s _ (TBlk.upd (S := Non) (by ((with_reducible repeat' first | exact Upd.refl _ _ | apply Upd.drew | apply Upd.drewN | apply Upd.alloc | refine Upd.setCell ?_ ?_) <;> first | (intro _ _ h; exact h) | (intro _ _ h; exact h.elim) | (intro i h1 h2; exfalso; (try simp only at h2); omega) | (left; rfl) | (right; dsimp only; omega) | (right; omega))) HB.out id)).mono ?_; rintro e w1 ⟨rfl, rfl⟩)
  refine bodyPost_ret (v := .agg s.vals) (by simp only [results, Try.results19]; go_simp; rfl) rfl ⟨rfl, by ((with_reducible repeat' first | exact Upd.refl _ _ | apply Upd.drew | apply Upd.drewN | apply Upd.alloc | refine Upd.setCell ?_ ?_) <;> first | (intro _ _ h; exact h) | (intro _ _ h; exact h.elim) | (intro i h1 h2; exfalso; (try simp only at h2); omega) | (left; rfl) | (right; dsimp only; omega) | (right; omega))⟩

/-- What a cycle makes of a timer. -/
def TS.tick (s : TS) : TS :=
  if s.k % 2 = 0 then s
  else if ¬ (s.c + 1) % 4294967296 = s.l then { s with c := (s.c + 1) % 4294967296 }
  else if s.k / 4 = 1 then ⟨0, s.l, s.k, if s.h < 4294967295 then s.h + 1 else s.h⟩
  else ⟨(s.c + 1) % 4294967296, s.l, s.k - 1, if s.h < 4294967295 then s.h + 1 else s.h⟩
theorem TS.tick_ok {s : TS} (h : s.ok) : s.tick.ok := by
  have h1 := h.c
  have h2 := h.l
  have h3 := h.k
  have h4 := h.h
  unfold TS.tick
  split
  · exact h
  · split
    · exact ⟨by dsimp only; omega, h2, h3, h4⟩
    · split
      · refine ⟨by dsimp only; omega, h2, h3, ?_⟩
        dsimp only; split <;> omega
      · refine ⟨by dsimp only; omega, h2, by dsimp only; omega, ?_⟩
        dsimp only; split <;> omega
def TS.line (s : TS) : Bool := s.k / 2 % 2 == 1 && decide (0 < s.h)
theorem bitB1 (k : Int) : bitB k 1 = (k % 2 == 1) := rfl
theorem bitB2 (k : Int) : bitB k 2 = (k / 2 % 2 == 1) := rfl
theorem bitB4 (k : Int) : bitB k 4 = (k / 4 == 1) := rfl

theorem line_spec (b : Nat) (s : TS) (hs : s.ok) (w : World) (hb : TBlk w b s) :
    Calls Try.prog 20 #[.pointer (some ⟨b, 0, none⟩)] w fun e w' => e = .returned (.bool s.line) ∧ w = w' := by
  have HB := Lib.hid hb
  have HS := Lib.hid hs
  have c3 : w.cell? ⟨b, 3, none⟩ = some (.int .u32 s.h) := hb.cell 3 rfl
  clear hb hs
  unfold TS.line
  cases hq : (s.k / 2 % 2 == 1)
  all_goals
    have HQ := Lib.hid hq
    clear hq
    go_enter Try.func20, Try.ntmps20
    go_wp2_with (first | (go_at_call 63; refine (there_spec b s _ HB.out).mono ?_; rintro e w1 ⟨rfl, rfl⟩) | (go_at_call 64; refine (is_spec b s 2 (.inr (.inl rfl)) HS.out.k _ HB.out).mono ?_; rintro e w1 ⟨rfl, rfl⟩; rw [bitB2, HQ.out]))
    go_ret
    exact ⟨rfl, rfl⟩

def TS.read (s : TS) (r : Int) : Int := if r = 0 then s.c else if r = 1 then s.l else if r = 2 then s.k else if r = 3 then s.h else 0
theorem read_spec (b : Nat) (s : TS) (r : Int) (w : World) (hb : TBlk w b s) :
    Calls Try.prog 40 #[.pointer (some ⟨b, 0, none⟩), .int .i64 r] w fun e w' => e = .returned (.int .u32 (s.read r)) ∧ Upd Non w w' := by
  have HB := Lib.hid hb
  clear hb
  unfold TS.read
  by_cases h0 : r = 0
  · subst h0
    go_enter Try.func40, Try.ntmps40
    go_wp2_with (go_at_call 19; refine (state_spec b s _ HB.out).mono ?_; rintro e w1 ⟨rfl, U1⟩; unfold TS.vals)
    go_ret
    exact ⟨rfl, by ((with_reducible repeat' first | exact Upd.refl _ _ | apply Upd.drew | apply Upd.drewN | apply Upd.alloc | refine Upd.setCell ?_ ?_ | refine Upd.call U1 ?_ ?_) <;> first | (intro _ _ h; exact h) | (intro _ _ h; exact h.elim) | (intro i h1 h2; exfalso; (try simp only at h2); omega) | (left; rfl) | (right; dsimp only; omega) | (right; omega))⟩
  by_cases h1 : r = 1
  · subst h1
    go_enter Try.func40, Try.ntmps40
    go_wp2_with (go_at_call 19; refine (state_spec b s _ HB.out).mono ?_; rintro e w1 ⟨rfl, U1⟩; unfold TS.vals)
    go_ret
    exact ⟨rfl, by ((with_reducible repeat' first | exact Upd.refl _ _ | apply Upd.drew | apply Upd.drewN | apply Upd.alloc | refine Upd.setCell ?_ ?_ | refine Upd.call U1 ?_ ?_) <;> first | (intro _ _ h; exact h) | (intro _ _ h; exact h.elim) | (intro i h1 h2; exfalso; (try simp only at h2); omega) | (left; rfl) | (right; dsimp only; omega) | (right; omega))⟩
  by_cases h2 : r = 2
  · subst h2
    go_enter Try.func40, Try.ntmps40
    go_wp2_with (go_at_call 19; refine (state_spec b s _ HB.out).mono ?_; rintro e w1 ⟨rfl, U1⟩; unfold TS.vals)
    go_ret
    exact ⟨rfl, by ((with_reducible repeat' first | exact Upd.refl _ _ | apply Upd.drew | apply Upd.drewN | apply Upd.alloc | refine Upd.setCell ?_ ?_ | refine Upd.call U1 ?_ ?_) <;> first | (intro _ _ h; exact h) | (intro _ _ h; exact h.elim) | (intro i h1 h2; exfalso; (try simp only at h2); omega) | (left; rfl) | (right; dsimp only; omega) | (right; omega))⟩
  by_cases h3 : r = 3
  · subst h3
    go_enter Try.func40, Try.ntmps40
    go_wp2_with (go_at_call 19; refine (state_spec b s _ HB.out).mono ?_; rintro e w1 ⟨rfl, U1⟩; unfold TS.vals)
    go_ret
    exact ⟨rfl, by ((with_reducible repeat' first | exact Upd.refl _ _ | apply Upd.drew | apply Upd.drewN | apply Upd.alloc | refine Upd.setCell ?_ ?_ | refine Upd.call U1 ?_ ?_) <;> first | (intro _ _ h; exact h) | (intro _ _ h; exact h.elim) | (intro i h1 h2; exfalso; (try simp only at h2); omega) | (left; rfl) | (right; dsimp only; omega) | (right; omega))⟩
  rw [if_neg h0, if_neg h1, if_neg h2, if_neg h3]
  go_enter Try.func40, Try.ntmps40
  go_wp2_with (go_at_call 19; refine (state_spec b s _ HB.out).mono ?_; rintro e w1 ⟨rfl, U1⟩; unfold TS.vals)
  go_ret
  exact ⟨rfl, by ((with_reducible repeat' first | exact Upd.refl _ _ | apply Upd.drew | apply Upd.drewN | apply Upd.alloc | refine Upd.setCell ?_ ?_ | refine Upd.call U1 ?_ ?_) <;> first | (intro _ _ h; exact h) | (intro _ _ h; exact h.elim) | (intro i h1 h2; exfalso; (try simp only at h2); omega) | (left; rfl) | (right; dsimp only; omega) | (right; omega))⟩

set_option maxRecDepth 100000 in
set_option maxHeartbeats 4000000 in
theorem tick_spec (b : Nat) (s : TS) (hs : s.ok) (w : World) (hb : TBlk w b s) :
    Calls Try.prog 18 #[.pointer (some ⟨b, 0, none⟩)] w fun e w' => e = .returned (.tuple #[]) ∧ TBlk w' b s.tick ∧ Upd (fun i => i = b) w w' := by
  have HB := Lib.hid hb
  have HS := Lib.hid hs
  have c0 : w.cell? ⟨b, 0, none⟩ = some (.int .u32 s.c) := hb.cell 0 rfl
  have c1 : w.cell? ⟨b, 1, none⟩ = some (.int .u32 s.l) := hb.cell 1 rfl
  have c2 : w.cell? ⟨b, 2, none⟩ = some (.int .u32 s.k) := hb.cell 2 rfl
  have c3 : w.cell? ⟨b, 3, none⟩ = some (.int .u32 s.h) := hb.cell 3 rfl
  have f0 : w.frozen? ⟨b, 0, none⟩ = false := hb.frozen 0
  have f2 : w.frozen? ⟨b, 2, none⟩ = false := hb.frozen 2
  have f3 : w.frozen? ⟨b, 3, none⟩ = false := hb.frozen 3
  have a1 := andNot_1 hs.k
  have hk8 := hs.k
  have hh := hs.h
  clear hb hs
  unfold TS.tick
  by_cases h0 : s.k % 2 = 0
  · rw [if_pos h0]
    have e0 : (s.k % 2 == 1) = false := by rw [h0]; rfl
    have HE := Lib.hid e0
    clear e0 h0 a1
    go_enter Try.func18, Try.ntmps18
    go_wp2_with (first | (go_at_call 63; refine (there_spec b s _ HB.out).mono ?_; rintro e w1 ⟨rfl, rfl⟩) | (go_at_call 64; refine (is_spec b s 1 (.inl rfl) HS.out.k _ HB.out).mono ?_; rintro e w1 ⟨rfl, rfl⟩; rw [bitB1, HE.out]))
    refine bodyPost_ret (results_none rfl _ _ _) rfl ?_
    exact ⟨rfl, HB.out, by ((with_reducible repeat' first | exact Upd.refl _ _ | apply Upd.drew | apply Upd.drewN | apply Upd.alloc | refine Upd.setCell ?_ ?_) <;> first | (intro _ _ h; exact h) | (intro _ _ h; exact h.elim) | (intro i h1 h2; exfalso; (try simp only at h2); omega) | (left; rfl) | (right; dsimp only; omega) | (right; omega))⟩
  · rw [if_neg h0]
    have e0 : (s.k % 2 == 1) = true := by rw [show s.k % 2 = 1 by omega]; rfl
    have HE := Lib.hid e0
    have e1 : s.k / 2 * 2 = s.k - 1 := by omega
    rw [e1] at a1
    clear e0 h0 e1
    obtain ⟨c', hc'⟩ : ∃ x, x = (s.c + 1) % 4294967296 := ⟨_, rfl⟩
    rw [← hc']
    have HC := Lib.hid hc'
    clear hc'
    by_cases h1 : c' = s.l
    · rw [if_neg (fun h => h h1)]
      have hne : (c' != s.l) = false := by rw [h1]; simp
      clear h1
      by_cases hh1 : s.h < 4294967295
      · rw [if_pos hh1]
        have hw : (s.h + 1) % 4294967296 = s.h + 1 := by omega
        by_cases h4 : s.k / 4 = 1
        · rw [if_pos h4]
          have q4 : (s.k / 4 == 1) = true := by rw [h4]; rfl
          have H4 := Lib.hid q4
          clear q4 h4
          go_enter Try.func18, Try.ntmps18
          go_wp2_with (first | (go_at_call 63; refine (there_spec b s _ HB.out).mono ?_; rintro e w1 ⟨rfl, rfl⟩) | (go_at_call 64; refine (is_spec b s 1 (.inl rfl) HS.out.k _ HB.out).mono ?_; rintro e w1 ⟨rfl, rfl⟩; rw [bitB1, HE.out]) | (go_at_call 65; refine (add_spec s.c _).mono ?_; rintro e w1 ⟨q, rfl, rfl⟩; rw [← HC.out]))
          go_region
          all_goals
            go_wp2_with (go_at_call 64; refine (is_spec b (⟨c', s.l, s.k, s.h + 1⟩ : TS) 4 (.inr (.inr rfl)) HS.out.k _ (Blk.eq (c := (((#[.int .u32 s.c, .int .u32 s.l, .int .u32 s.k, .int .u32 s.h, .bool true] : Array Value).setIfInBounds 0 (.int .u32 c')).setIfInBounds 3 (.int .u32 (s.h + 1)))) (by have h := HB.out.blk; ((with_reducible repeat' first | apply Blk.drew | apply Blk.drewN | apply Blk.alloc | apply Blk.set | refine Blk.set_ne ?_ ?_) <;> first | with_reducible exact h | omega | (dsimp only; omega))) rfl)).mono ?_; rintro e w1 ⟨rfl, rfl⟩; rw [bitB4, H4.out])
            go_end0
            exact ⟨rfl, Blk.eq (c := ((((#[.int .u32 s.c, .int .u32 s.l, .int .u32 s.k, .int .u32 s.h, .bool true] : Array Value).setIfInBounds 0 (.int .u32 c')).setIfInBounds 3 (.int .u32 (s.h + 1))).setIfInBounds 0 (.int .u32 0))) (by have h := HB.out.blk; ((with_reducible repeat' first | apply Blk.drew | apply Blk.drewN | apply Blk.alloc | apply Blk.set | refine Blk.set_ne ?_ ?_) <;> first | with_reducible exact h | omega | (dsimp only; omega))) rfl, by ((with_reducible repeat' first | exact Upd.refl _ _ | apply Upd.drew | apply Upd.drewN | apply Upd.alloc | refine Upd.setCell ?_ ?_) <;> first | (intro _ _ h; exact h) | (intro _ _ h; exact h.elim) | (intro i h1 h2; exfalso; (try simp only at h2); omega) | (left; rfl) | (right; dsimp only; omega) | (right; omega))⟩

        · rw [if_neg h4]
          have q4 : (s.k / 4 == 1) = false := by simpa using h4
          have H4 := Lib.hid q4
          clear q4 h4
          go_enter Try.func18, Try.ntmps18
          go_wp2_with (first | (go_at_call 63; refine (there_spec b s _ HB.out).mono ?_; rintro e w1 ⟨rfl, rfl⟩) | (go_at_call 64; refine (is_spec b s 1 (.inl rfl) HS.out.k _ HB.out).mono ?_; rintro e w1 ⟨rfl, rfl⟩; rw [bitB1, HE.out]) | (go_at_call 65; refine (add_spec s.c _).mono ?_; rintro e w1 ⟨q, rfl, rfl⟩; rw [← HC.out]))
          go_region
          all_goals
            go_wp2_with (go_at_call 64; refine (is_spec b (⟨c', s.l, s.k, s.h + 1⟩ : TS) 4 (.inr (.inr rfl)) HS.out.k _ (Blk.eq (c := (((#[.int .u32 s.c, .int .u32 s.l, .int .u32 s.k, .int .u32 s.h, .bool true] : Array Value).setIfInBounds 0 (.int .u32 c')).setIfInBounds 3 (.int .u32 (s.h + 1)))) (by have h := HB.out.blk; ((with_reducible repeat' first | apply Blk.drew | apply Blk.drewN | apply Blk.alloc | apply Blk.set | refine Blk.set_ne ?_ ?_) <;> first | with_reducible exact h | omega | (dsimp only; omega))) rfl)).mono ?_; rintro e w1 ⟨rfl, rfl⟩; rw [bitB4, H4.out])
            go_end0
            exact ⟨rfl, Blk.eq (c := ((((#[.int .u32 s.c, .int .u32 s.l, .int .u32 s.k, .int .u32 s.h, .bool true] : Array Value).setIfInBounds 0 (.int .u32 c')).setIfInBounds 3 (.int .u32 (s.h + 1))).setIfInBounds 2 (.int .u32 (s.k - 1)))) (by have h := HB.out.blk; ((with_reducible repeat' first | apply Blk.drew | apply Blk.drewN | apply Blk.alloc | apply Blk.set | refine Blk.set_ne ?_ ?_) <;> first | with_reducible exact h | omega | (dsimp only; omega))) rfl, by ((with_reducible repeat' first | exact Upd.refl _ _ | apply Upd.drew | apply Upd.drewN | apply Upd.alloc | refine Upd.setCell ?_ ?_) <;> first | (intro _ _ h; exact h) | (intro _ _ h; exact h.elim) | (intro i h1 h2; exfalso; (try simp only at h2); omega) | (left; rfl) | (right; dsimp only; omega) | (right; omega))⟩

      · rw [if_neg hh1]
        by_cases h4 : s.k / 4 = 1
        · rw [if_pos h4]
          have q4 : (s.k / 4 == 1) = true := by rw [h4]; rfl
          have H4 := Lib.hid q4
          clear q4 h4
          go_enter Try.func18, Try.ntmps18
          go_wp2_with (first | (go_at_call 63; refine (there_spec b s _ HB.out).mono ?_; rintro e w1 ⟨rfl, rfl⟩) | (go_at_call 64; refine (is_spec b s 1 (.inl rfl) HS.out.k _ HB.out).mono ?_; rintro e w1 ⟨rfl, rfl⟩; rw [bitB1, HE.out]) | (go_at_call 65; refine (add_spec s.c _).mono ?_; rintro e w1 ⟨q, rfl, rfl⟩; rw [← HC.out]))
          go_region
          all_goals
            go_wp2_with (go_at_call 64; refine (is_spec b (⟨c', s.l, s.k, s.h⟩ : TS) 4 (.inr (.inr rfl)) HS.out.k _ (Blk.eq (c := ((#[.int .u32 s.c, .int .u32 s.l, .int .u32 s.k, .int .u32 s.h, .bool true] : Array Value).setIfInBounds 0 (.int .u32 c'))) (by have h := HB.out.blk; ((with_reducible repeat' first | apply Blk.drew | apply Blk.drewN | apply Blk.alloc | apply Blk.set | refine Blk.set_ne ?_ ?_) <;> first | with_reducible exact h | omega | (dsimp only; omega))) rfl)).mono ?_; rintro e w1 ⟨rfl, rfl⟩; rw [bitB4, H4.out])
            go_end0
            exact ⟨rfl, Blk.eq (c := (((#[.int .u32 s.c, .int .u32 s.l, .int .u32 s.k, .int .u32 s.h, .bool true] : Array Value).setIfInBounds 0 (.int .u32 c')).setIfInBounds 0 (.int .u32 0))) (by have h := HB.out.blk; ((with_reducible repeat' first | apply Blk.drew | apply Blk.drewN | apply Blk.alloc | apply Blk.set | refine Blk.set_ne ?_ ?_) <;> first | with_reducible exact h | omega | (dsimp only; omega))) rfl, by ((with_reducible repeat' first | exact Upd.refl _ _ | apply Upd.drew | apply Upd.drewN | apply Upd.alloc | refine Upd.setCell ?_ ?_) <;> first | (intro _ _ h; exact h) | (intro _ _ h; exact h.elim) | (intro i h1 h2; exfalso; (try simp only at h2); omega) | (left; rfl) | (right; dsimp only; omega) | (right; omega))⟩

        · rw [if_neg h4]
          have q4 : (s.k / 4 == 1) = false := by simpa using h4
          have H4 := Lib.hid q4
          clear q4 h4
          go_enter Try.func18, Try.ntmps18
          go_wp2_with (first | (go_at_call 63; refine (there_spec b s _ HB.out).mono ?_; rintro e w1 ⟨rfl, rfl⟩) | (go_at_call 64; refine (is_spec b s 1 (.inl rfl) HS.out.k _ HB.out).mono ?_; rintro e w1 ⟨rfl, rfl⟩; rw [bitB1, HE.out]) | (go_at_call 65; refine (add_spec s.c _).mono ?_; rintro e w1 ⟨q, rfl, rfl⟩; rw [← HC.out]))
          go_region
          all_goals
            go_wp2_with (go_at_call 64; refine (is_spec b (⟨c', s.l, s.k, s.h⟩ : TS) 4 (.inr (.inr rfl)) HS.out.k _ (Blk.eq (c := ((#[.int .u32 s.c, .int .u32 s.l, .int .u32 s.k, .int .u32 s.h, .bool true] : Array Value).setIfInBounds 0 (.int .u32 c'))) (by have h := HB.out.blk; ((with_reducible repeat' first | apply Blk.drew | apply Blk.drewN | apply Blk.alloc | apply Blk.set | refine Blk.set_ne ?_ ?_) <;> first | with_reducible exact h | omega | (dsimp only; omega))) rfl)).mono ?_; rintro e w1 ⟨rfl, rfl⟩; rw [bitB4, H4.out])
            go_end0
            exact ⟨rfl, Blk.eq (c := (((#[.int .u32 s.c, .int .u32 s.l, .int .u32 s.k, .int .u32 s.h, .bool true] : Array Value).setIfInBounds 0 (.int .u32 c')).setIfInBounds 2 (.int .u32 (s.k - 1)))) (by have h := HB.out.blk; ((with_reducible repeat' first | apply Blk.drew | apply Blk.drewN | apply Blk.alloc | apply Blk.set | refine Blk.set_ne ?_ ?_) <;> first | with_reducible exact h | omega | (dsimp only; omega))) rfl, by ((with_reducible repeat' first | exact Upd.refl _ _ | apply Upd.drew | apply Upd.drewN | apply Upd.alloc | refine Upd.setCell ?_ ?_) <;> first | (intro _ _ h; exact h) | (intro _ _ h; exact h.elim) | (intro i h1 h2; exfalso; (try simp only at h2); omega) | (left; rfl) | (right; dsimp only; omega) | (right; omega))⟩
    · rw [if_pos h1]
      have hne : (c' != s.l) = true := by simpa using h1
      go_enter Try.func18, Try.ntmps18
      go_wp2_with (first | (go_at_call 63; refine (there_spec b s _ HB.out).mono ?_; rintro e w1 ⟨rfl, rfl⟩) | (go_at_call 64; refine (is_spec b s 1 (.inl rfl) HS.out.k _ HB.out).mono ?_; rintro e w1 ⟨rfl, rfl⟩; rw [bitB1, HE.out]) | (go_at_call 65; refine (add_spec s.c _).mono ?_; rintro e w1 ⟨q, rfl, rfl⟩; rw [← HC.out]))
      go_region
      all_goals
        go_wp2_with fail
        refine bodyPost_ret (results_none rfl _ _ _) rfl ?_
        exact ⟨rfl, Blk.eq (c := (#[.int .u32 s.c, .int .u32 s.l, .int .u32 s.k, .int .u32 s.h, .bool true] : Array Value).setIfInBounds 0 (.int .u32 c')) (by have h := HB.out.blk; ((with_reducible repeat' first | apply Blk.drew | apply Blk.drewN | apply Blk.alloc | apply Blk.set | refine Blk.set_ne ?_ ?_) <;> first | with_reducible exact h | omega | (dsimp only; omega))) rfl, by ((with_reducible repeat' first | exact Upd.refl _ _ | apply Upd.drew | apply Upd.drewN | apply Upd.alloc | refine Upd.setCell ?_ ?_) <;> first | (intro _ _ h; exact h) | (intro _ _ h; exact h.elim) | (intro i h1 h2; exfalso; (try simp only at h2); omega) | (left; rfl) | (right; dsimp only; omega) | (right; omega))⟩
end Go.Proofs.Ytmblplhehbdocaa
