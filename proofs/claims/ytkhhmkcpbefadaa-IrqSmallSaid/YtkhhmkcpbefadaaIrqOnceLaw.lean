/- IrqOnce: the law's walk. Conditions: the levels' cells are known. -/
import Derived.Test.YtkhhmkcpbefadaaIrqAwake
import Derived.Test.YtkhhmkcpbefadaaTail
namespace Go.Proofs.Ytkhhmkcpbefadaa
open Go.RowKit
theorem and_pow (L m : Nat) : 2 ^ L &&& m = if m.testBit L then 2 ^ L else 0 := by
  refine Nat.eq_of_testBit_eq fun i => ?_
  rw [Nat.testBit_and, Nat.testBit_two_pow]
  by_cases h : L = i
  · subst h
    cases hm : m.testBit L <;> simp
  · cases hm : m.testBit L <;> simp [h]
theorem low_pow {L : Nat} (h : L < 8) : low (2 ^ L) = L := by
  rcases lt8 h with rfl | rfl | rfl | rfl | rfl | rfl | rfl | rfl
  all_goals decide
theorem clr_pow (L : Nat) : clr (2 ^ L) L = 0 := by
  unfold clr
  rw [if_pos (by simp)]
  omega
theorem lets_at {m L : Nat} {lt : Bool} (h : m.testBit L = lt) : (((m : Int) / 2 ^ L).tmod 2 == 1) = lt := by
  rw [← h, Nat.testBit_eq_decide_div_mod_eq]
  have e : ((m : Int) / 2 ^ L).tmod 2 = ((m / 2 ^ L % 2 : Nat) : Int) := by
    rw [show (m : Int) / 2 ^ L = ((m / 2 ^ L : Nat) : Int) by simp]
    rfl
  rw [e]
  have h2 : m / 2 ^ L % 2 = 0 ∨ m / 2 ^ L % 2 = 1 := by omega
  rcases h2 with h2 | h2 <;> rw [h2] <;> decide
theorem aw_lookD {w W : World} {b r : Nat} {p : List WR × WS} (h : AW w W b r p) (hp : p.1.length = 1) (hh : Bool) : Calls Try.prog 12 #[.pointer (some ⟨b, 0, none⟩), .slice (some ⟨W.heap.size, 0, none⟩) 1 1] (W.drew.alloc (.cells #[.bool hh] 4)) fun e w' => e = .returned (.int .i64 0) ∧ AW w w' b r (lstep p 0 hh) :=
  aw_look (h.non (Upd.refl _ _).drew.alloc) hp hh _ (Blk.new _ _ _) (by have : b < W.heap.size := h.ltb; show W.heap.size ≠ b; omega) (by have : r < W.heap.size := h.ltr; show W.heap.size ≠ r; omega) 1
/-- What the board is in a round. -/
structure OnceP (p : List WR × WS) (L m : Nat) (hi wv : Bool) : Prop where
  ws : p.1 = [⟨4, L, hi⟩]
  wt : p.2.wt 4 = if wv then 2 ^ L else 0
  le : p.2.le 4 = m
theorem once_look {p : List WR × WS} {L m : Nat} {hi wv : Bool} (h : OnceP p L m hi wv) (hh : Bool) : OnceP (lstep p 0 hh) L m hh (wv || (hh && !hi)) := by
  have hx : p.1[0]? = some ⟨4, L, hi⟩ := by rw [h.ws]; rfl
  have e := lstep_in hx (show (0 : Int) ≤ 4 by decide) (show (0 : Int) ≤ (L : Int) by omega) hh
  refine ⟨by rw [e, h.ws]; rfl, ?_, ?_⟩
  · rw [e]
    show (if hh && !hi then p.2.setW 4 (p.2.wt 4 ||| 2 ^ L) else p.2).wt 4 = _
    cases hh <;> cases hi <;> cases wv <;> simp [WS.setW, h.wt]
  · rw [e]
    show (if hh && !hi then p.2.setW 4 (p.2.wt 4 ||| 2 ^ L) else p.2).le 4 = _
    cases hh <;> cases hi <;> simp [WS.setW, h.le]
theorem once_call {p : List WR × WS} {L m : Nat} {hi wv lt : Bool} (h : OnceP p L m hi wv) (hL : L < 8) (hlt : m.testBit L = lt) : OnceP (p.1, callS p.2 4) L m hi (wv && !lt) ∧ callR p.2 4 = if wv && lt then ((L : Int), true) else (0, false) := by
  have hp : 0 < 2 ^ L := Nat.two_pow_pos L
  have hand : p.2.wt 4 &&& p.2.le 4 = if wv && lt then 2 ^ L else 0 := by
    rw [h.wt, h.le]
    cases wv
    · simp
    · simp only [if_true, and_pow, hlt, Bool.true_and]
  unfold callS callR
  rw [hand]
  cases hq : (wv && lt)
  · refine ⟨⟨h.ws, ?_, ?_⟩, ?_⟩
    · simp only [Bool.false_eq_true, if_false, if_true, h.wt]
      revert hq; cases wv <;> cases lt <;> simp
    · simp [h.le]
    · simp
  · have hw : wv = true := by revert hq; cases wv <;> simp
    have hl : lt = true := by revert hq; cases wv <;> simp
    subst hw hl
    refine ⟨⟨h.ws, ?_, ?_⟩, ?_⟩
    · simp [h.wt, WS.setW, low_pow hL, clr_pow]
    · simp [WS.setW, h.le]
    · simp [low_pow hL]
set_option maxRecDepth 100000 in
set_option maxHeartbeats 16000000 in
theorem once_law (line : Int) (A : Option Addr) (n cc : Nat) (hmax : n ≤ 9223372036854775807) (LV : Nat → Bool) (m : Nat) (hm : m < 256) (w : World) (hd : 0 < n → ∃ b o, A = some ⟨b, o, none⟩ ∧ ∀ j, j < n → w.cell? ⟨b, o + j, none⟩ = some (.bool (LV j))) :
    Calls Try.prog 3 #[.int .i64 line, .slice A n cc, .int .u8 m] w fun e w' => e = .returned (.bool true) ∧ Upd Non w w' := by
  have HD := Lib.hid hd
  clear hd
  by_cases q : (line < 0 ∨ 7 < line) ∨ (400 : Int) < n
  · go_enter Try.func3, Try.ntmps3
    go_wp2_with (first | (go_at_call 8; refine (awake_ok w).mono ?_; rintro e w1 ⟨rfl, hU1⟩))
    all_goals first
      | (go_ret; exact ⟨rfl, hU1⟩)
      | (exfalso; omega)
  have q1 : ¬ line < 0 := by omega
  have q2 : ¬ 7 < line := by omega
  have q3 : ¬ (400 : Int) < n := by omega
  clear q
  go_enter Try.func3, Try.ntmps3
  go_wp2_with (first | (go_at_call 8; refine (awake_ok w).mono ?_; rintro e w1 ⟨rfl, hU1⟩))
  have HU1 := Lib.hid hU1
  clear hU1
  obtain ⟨L, rfl⟩ : ∃ L : Nat, line = L := ⟨line.toNat, by omega⟩
  have hL : L < 8 := by omega
  refine (one_is 4 L _).mono ?_
  rintro e w2 ⟨rfl, hu2⟩
  have HU2 := Lib.hid (Upd.call hu2 HU1.out fun _ _ h => h)
  clear hu2 HU1
  go_wp2_with fail
  refine (aw_new (w := w) _ _ 0 0 0 4 L HU2.out.alloc (Blk.new _ _ _) ⟨by decide, by decide, by omega, by omega⟩).mono ?_
  rintro e w3 ⟨rfl, r, hA⟩
  obtain ⟨b, hb⟩ : ∃ x, x = (w2.alloc (.cells #[.int .i64 0, .int .u32 0, .int .i64 0, .int .i64 4, .int .i64 L] 31)).heap.size := ⟨_, rfl⟩
  rw [← hb] at hA ⊢
  have HA0 := Lib.hid hA
  clear hA hb
  go_wp2_with fail
  refine (aw_mask (k := 4) (m := m) HA0.out (by decide) hm).mono ?_
  rintro e w4 ⟨rfl, hA⟩
  have HA1 := Lib.hid hA
  clear hA HA0
  have hL0 : (0 : Int) ≤ L := by omega
  have hL8 : (L : Int) ≤ 8 := by omega
  have z6 : ¬ (L : Int) < 0 := by omega
  obtain ⟨lt, hlt⟩ : ∃ lt, m.testBit L = lt := ⟨_, rfl⟩
  have HLT := Lib.hid hlt
  have hlets := lets_at hlt
  clear hlt
  have HO := Lib.hid (show OnceP (([⟨4, L, false⟩] : List WR), WS.setL WS.fresh 4 m) L m false false from ⟨rfl, rfl, rfl⟩)
  go_wp2_with fail
  go_loopw [10, 11, 12] (fun h v i wr => ∃ (t : Nat) (hi wv : Bool) (p : List WR × WS), t ≤ n ∧ h = .bool hi ∧ v = .bool wv ∧ i = .int .i64 t ∧ AW w wr b r p ∧ OnceP p L m hi wv) (fun _ _ i _ => n - (intOf i).toNat)
  case atStart => exact ⟨0, false, false, _, Nat.zero_le _, rfl, rfl, rfl, HA1.out, HO.out⟩
  case round =>
    clear HA1 HO
    obtain ⟨t, hi, wv, p, ht, rfl, rfl, rfl, hA, hO⟩ := hrel
    have HA := Lib.hid hA
    have HO := Lib.hid hO
    clear hA hO
    by_cases hlt : t < n
    case neg =>
      have k1 : ¬ (t : Int) < n := by omega
      go_wp2_with fail
      go_ret
      exact ⟨rfl, HA.out.up⟩
    have k1 : (t : Int) < n := by omega
    obtain ⟨g, o, rfl, hg⟩ := HD.out (by omega)
    have l0 := HA.out.up.cell_eq id (hg t hlt)
    obtain ⟨hh, hhh⟩ : ∃ hh, hh = LV t := ⟨_, rfl⟩
    rw [← hhh] at l0
    clear hg hhh
    have hbw : b < wr.heap.size := HA.out.ltb
    have hrw : r < wr.heap.size := HA.out.ltr
    obtain ⟨Z, hZ⟩ : ∃ Z, Z = 2 ^ L := ⟨_, rfl⟩
    have z4 : IntKind.u8.wrap ((2 : Int) ^ L) = (Z : Int) := by rw [hZ]; exact shl_byte L hL
    have hZ0 : 0 < Z := by rw [hZ]; exact Nat.two_pow_pos L
    obtain ⟨wv2, hwv⟩ : ∃ x, x = (wv || (hh && !hi)) := ⟨_, rfl⟩
    obtain ⟨M, hM⟩ : ∃ M, M = if wv2 then Z else 0 := ⟨_, rfl⟩
    have HO2 := Lib.hid (show OnceP (lstep p 0 hh) L m hh wv2 by rw [hwv]; exact once_look HO.out hh)
    have HM := Lib.hid (show (lstep p 0 hh).2.wt 4 = M by rw [HO2.out.wt, hM, hZ])
    have HP := Lib.hid (show p.1.length = 1 by rw [HO.out.ws]; rfl)
    have HC := Lib.hid (once_call HO2.out hL HLT.out)
    clear hZ
    have y1 : ((M : Int) == (Z : Int)) = wv2 := by
      cases wv2
      · rw [hM]; simp; omega
      · rw [hM]; simp
    have y2 : ((M : Int) == 0) = !wv2 := by
      cases wv2
      · rw [hM]; simp
      · rw [hM]; simp; omega
    clear hM
    have C12 := Lib.hid (aw_lookD HA.out HP.out hh)
    have C13 := Lib.hid (fun (W : World) (h : AW w W b r (lstep p 0 hh)) => aw_pend (k := 4) (m := M) h (by decide) HM.out)
    revert hwv
    cases hh <;> cases hi <;> cases wv <;> intro hwv <;> simp at hwv <;> subst hwv
    all_goals
      simp (config := { failIfUnchanged := false }) only [Bool.not_true, Bool.not_false] at y2
      go_wp2_with fail
      refine wp_region_run [0, 1, 2, 3, 4, 5, 6, 7, 8] 17 (by kernel_rfl) rfl (by kernel_rfl) (by kernel_rfl) (fun _ _ d _ _ h => by cases d <;> exact h) (by repeat' first | exact Runs.nil | apply Runs.cons | exact At.head _ _ | apply At.tail) ?_
      go_wp2_with (first | (go_at_call 12; refine C12.out.mono ?_; rintro e w5 ⟨rfl, hA5⟩; have HA5 := Lib.hid hA5; clear hA5))
      refine Left.grown 9 (by repeat' first | exact Tail.all _ | apply Tail.skip) rfl (by kernel_rfl) (by kernel_rfl) ?_
      repeat go_big_quiet_step ((go_at_call 13; exact Grown.call_same (C13.out _ (HA5.out.non (Grown.h _)))))
      refine wpQuiet_nil ?_
      rintro ⟨w6, hU6⟩
      show Exit.then _ _ _ _ w6
      have HA6 := Lib.hid (HA5.out.non hU6)
      clear HA5 hU6
      cases lt <;> go_wp2_with (first | (go_at_call 14; refine (aw_call (k := 4) HA6.out (by decide) HC.out.2).mono ?_; rintro e w7 ⟨rfl, hA7⟩; have HA7 := Lib.hid hA7; clear hA7))
      all_goals
        exact ⟨⟨t + 1, _, _, _, by omega, rfl, rfl, rfl, HA7.out, HC.out.1⟩, by simp only [intOf]; omega⟩
end Go.Proofs.Ytkhhmkcpbefadaa
