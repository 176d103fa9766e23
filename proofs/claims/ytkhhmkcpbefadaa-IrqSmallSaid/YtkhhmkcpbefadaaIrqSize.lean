/- The size of devices and deeds; a copy of levels. Conditions: what is read is known. -/
import Derived.Test.YtkhhmkcpbefadaaIrqAwake
import Derived.Test.YtkhhmkcpbefadaaGRow
namespace Go.Proofs.Ytkhhmkcpbefadaa
open Go.RowKit
/-- The deeds' levels. -/
def LevelsAt (w : World) (D : Option Addr) (m : Nat) (LA : Nat → Option Addr) (LN LC : Nat → Nat) : Prop := 0 < m → ∃ b o, D = some ⟨b, o, none⟩ ∧ ∀ i, i < m → w.cell? ⟨b, o + i * 4 + 3, none⟩ = some (.slice (LA i) (LN i) (LC i))
set_option maxHeartbeats 4000000 in
theorem size_is (A : Option Addr) (n cc : Nat) (D : Option Addr) (m dc : Nat) (LA : Nat → Option Addr) (LN LC : Nat → Nat) (hn : n ≤ 2 ^ 48) (hm : m ≤ 2 ^ 48) (hl : ∀ i, i < m → LN i ≤ 2 ^ 48) (w : World) (hd : LevelsAt w D m LA LN LC) :
    Calls Try.prog 15 #[.slice A n cc, .slice D m dc] w fun e w' => ∃ z : Int, e = .returned (.int .i64 z) ∧ (z ≤ 400 → n ≤ 400 ∧ m ≤ 400 ∧ ∀ i, i < m → LN i ≤ 400) ∧ w = w' := by
  have HD := Lib.hid hd
  have HL := Lib.hid hl
  clear hd hl
  go_enter Try.func15, Try.ntmps15
  go_wp2_with fail
  go_loopw [5, 6] (fun z i wr => ∃ (t y : Nat), t ≤ m ∧ i = .int .i64 t ∧ z = .int .i64 y ∧ n + m ≤ y ∧ y ≤ 2 ^ 49 + 400 ∧ wr = w ∧ ∀ i, i < t → LN i ≤ y) (fun _ i _ => m - (intOf i).toNat)
  case atStart => exact ⟨0, n + m, Nat.zero_le _, rfl, by simp, by omega, by omega, rfl, fun i h => absurd h (by omega)⟩
  case round =>
    obtain ⟨t, y, ht, rfl, rfl, hy, hy2, rfl, hall⟩ := hrel
    have HA := Lib.hid hall
    clear hall
    by_cases hlt : t < m
    case neg =>
      have k1 : ¬ (t : Int) < m := by omega
      obtain rfl : t = m := by omega
      go_wp2_with fail
      go_ret
      exact ⟨_, rfl, fun h => ⟨by omega, by omega, fun i hi => by have := HA.out i hi; omega⟩, rfl⟩
    have k1 : (t : Int) < m := by omega
    by_cases q : (y : Int) ≤ 400
    case neg =>
      go_wp2_with fail
      go_ret
      exact ⟨_, rfl, fun h => absurd h (by omega), rfl⟩
    obtain ⟨b, o, rfl, hc⟩ := HD.out (by omega)
    have c0 := hc t hlt
    have hL := HL.out t hlt
    obtain ⟨N, hN⟩ : ∃ N, N = LN t := ⟨_, rfl⟩
    rw [← hN] at c0 hL
    have HN := Lib.hid hN
    clear hc hN
    go_wp2_with fail
    refine ⟨⟨t + 1, y + N, by omega, rfl, by simp, by omega, by omega, by first | rfl | trivial, fun i hi => ?_⟩, by simp only [intOf]; omega⟩
    by_cases e : i < t
    · have := HA.out i e; omega
    · rw [show i = t by omega, ← HN.out]; omega
/-- The levels as a row. -/
def bools (LV : Nat → Bool) (n : Nat) : List Value := (List.range n).map fun i => .bool (LV i)
theorem bools_length (LV : Nat → Bool) (n : Nat) : (bools LV n).length = n := by simp [bools]
theorem bools_at (LV : Nat → Bool) {n i : Nat} (h : i < n) : (bools LV n)[i]? = some (.bool (LV i)) := by simp [bools, h]
theorem bools_congr {LV LW : Nat → Bool} {n : Nat} (h : ∀ i, i < n → LV i = LW i) : bools LV n = bools LW n := by
  refine List.ext_getElem? fun i => ?_
  by_cases hi : i < n
  · rw [bools_at _ hi, bools_at _ hi, h i hi]
  · rw [List.getElem?_eq_none_iff.2 (by rw [bools_length]; omega), List.getElem?_eq_none_iff.2 (by rw [bools_length]; omega)]
theorem bools_set (LV : Nat → Bool) {n i : Nat} (x : Bool) : (bools LV n).set i (.bool x) = bools (fun j => if j = i then x else LV j) n := by
  refine List.ext_getElem? fun j => ?_
  rw [List.getElem?_set]
  by_cases hj : j < n
  · have hb := bools_at LV hj
    by_cases e : i = j
    · subst e; rw [if_pos rfl, if_pos (by rw [bools_length]; exact hj), bools_at _ hj, if_pos rfl]
    · rw [if_neg e, hb, bools_at _ hj, if_neg (fun h => e h.symm)]
  · rw [List.getElem?_eq_none_iff.2 (show (bools (fun j => if j = i then x else LV j) n).length ≤ j by rw [bools_length]; omega)]
    by_cases e : i = j
    · subst e; rw [if_pos rfl, if_neg (by rw [bools_length]; omega)]
    · rw [if_neg e, List.getElem?_eq_none_iff.2 (by rw [bools_length]; omega)]
/-- A cell of an own row is stored. -/
theorem own_put {w : World} {base : Nat} {e : TypeId} {n g c : Nat} {xs : List Value} (h : w.ownsRow base e 1 (.slice (some ⟨g, 0, none⟩) n c) n xs) (i : Nat) (u : Value) : (w.setCell ⟨g, i, none⟩ u).ownsRow base e 1 (.slice (some ⟨g, 0, none⟩) n c) n (xs.set i u) := by
  obtain ⟨h1, h2⟩ := h
  refine ⟨by rw [List.length_set]; exact h1, ?_⟩
  rcases h2 with ⟨h2, _⟩ | ⟨g', cap, cur, he, hg, hh, h3, h4, h5, h6⟩
  · cases h2
  · cases he
    refine .inr ⟨g, c, cur.setIfInBounds i u, rfl, hg, heap_setCell_same w g i cur e u hh, h3, h4, by rw [Array.size_setIfInBounds]; exact h5, ?_⟩
    rw [Array.toList_setIfInBounds, ← h6, List.take_set]
theorem own_frz {w : World} {base : Nat} {e : TypeId} {sz n g c : Nat} {xs : List Value} (h : w.ownsRow base e sz (.slice (some ⟨g, 0, none⟩) n c) n xs) (i : Nat) : w.frozen? ⟨g, i, none⟩ = false := by
  obtain ⟨_, h2⟩ := h
  rcases h2 with ⟨h2, _⟩ | ⟨g', cap, cur, he, _, hh, _⟩
  · cases h2
  · cases he; exact frozen_of_row w g i cur e hh
set_option maxHeartbeats 4000000 in
theorem copy_is (A : Option Addr) (n cc : Nat) (LV : Nat → Bool) (hn : n ≤ 100000) (w : World) (hd : 0 < n → ∃ b o, A = some ⟨b, o, none⟩ ∧ ∀ i, i < n → w.cell? ⟨b, o + i, none⟩ = some (.bool (LV i))) :
    Calls Try.prog 16 #[.slice A n cc] w fun e w' => ∃ v, e = .returned v ∧ w'.ownsRow w.heap.size 4 1 v n (bools LV n) ∧ Upd Non w w' := by
  by_cases h0 : n = 0
  · subst h0
    clear hd
    cases A
    all_goals
      go_enter Try.func16, Try.ntmps16
      go_wp2_with fail
      go_ret
      exact ⟨_, rfl, World.ownsRow_nil _ _ _ _, Upd.refl _ _⟩
  · obtain ⟨b, o, rfl, hc⟩ := hd (by omega)
    obtain ⟨i, hi, hz0, hz1, hz2⟩ := info_parts (show (Try.prog.info? 4).map (fun i => (i.zero, i.size, i.bytes)) = some (some (.bool false), 1, 1) by kernel_rfl)
    obtain ⟨v', w', hr, h2, h3, h4, h5⟩ := run_append_own_at (P := Try.prog) w w.heap.size 22 22 4 i _ 1 1 Try.underlying22 hi hz0 hz1 hz2 rfl (by decide) (.slice none 0 0) 0 [] (World.ownsRow_nil _ _ _ _) ⟨b, o, none⟩ n cc (bools LV n) (by rw [bools_length]; omega)
      (fun j u hj => by
        have hjn : j < n := by have := (List.getElem?_eq_some_iff.1 hj).1; rwa [bools_length] at this
        rw [bools_at LV hjn] at hj
        cases hj
        rw [show (⟨b, o, none⟩ : Addr).add j = ⟨b, o + j, none⟩ by unfold Addr.add; split <;> simp_all]
        exact hc j hjn)
      (fun u hu => by simp [bools] at hu; obtain ⟨a, _, rfl⟩ := hu; rfl) (by unfold maxLen; omega) (by omega) (Nat.le_refl _)
    have HR := Lib.hid hr
    have HP := Lib.hid (And.intro h2 h3)
    clear hd hc h2 h3 h4 h5 hr
    go_enter Try.func16, Try.ntmps16
    go_wp2_with (refine wpList_appendK rfl _ _ 22 rfl rfl rfl HR.out ?_)
    go_ret
    exact ⟨_, rfl, by have := HP.out.1; rwa [Nat.zero_add, List.nil_append] at this, Upd.of_below ⟨HP.out.2.os, HP.out.2.tape, HP.out.2.output, HP.out.2.size, fun k hk => HP.out.2.block k hk (by intro h; cases h)⟩⟩
end Go.Proofs.Ytkhhmkcpbefadaa
