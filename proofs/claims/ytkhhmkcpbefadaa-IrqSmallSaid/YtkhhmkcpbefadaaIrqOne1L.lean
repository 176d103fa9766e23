/- A deed on both boards: levels are looked at. Conditions: both are known, and agree; the levels' cells are known. -/
import Derived.Test.YtkhhmkcpbefadaaIrqDeed
import Derived.Test.YtkhhmkcpbefadaaIrqPair
import Derived.Test.YtkhhmkcpbefadaaIrqBlk
namespace Go.Proofs.Ytkhhmkcpbefadaa
open Go.RowKit
section
variable {w W W' : World} {pc b r c q : Nat} {p p2 : List WR × WS} {f f2 : Nat → Bool}
theorem ds_look (h : DS w W pc b r c q p f) {n : Nat} (hn2 : n ≤ 100000) (A : Option Addr) (cc : Nat) (LV : Nat → Bool)
    (hl : 0 < n → ∃ g o, A = some ⟨g, o, none⟩ ∧ g ≠ b ∧ g ≠ r ∧ ∀ i, i < n → W.cell? ⟨g, o + i, none⟩ = some (.bool (LV i))) :
    Calls Try.prog 12 #[.pointer (some ⟨b, 0, none⟩), .slice A n cc] W fun e w' => e = .returned (.int .i64 (lookZ p n)) ∧ DM w w' pc b r c q p (lookP p LV n) f ∧ Upd (fun i => i = b ∨ i = r) W w' :=
  (aw_lookA ⟨h.B, h.up, h.lb, h.lr, h.fit⟩ hn2 A cc LV hl).mono fun _ _ ⟨e, hb, hf, hu⟩ => ⟨e, h.board hb hf hu, hu⟩
theorem dm_look (hf : Fit p.1 p.2) {n : Nat} (hn2 : n ≤ 100000) (A : Option Addr) (cc : Nat) (LV : Nat → Bool) (h : DM w W pc b r c q p (lookP p LV n) f)
    (hl : 0 < n → ∃ g o, A = some ⟨g, o, none⟩ ∧ g ≠ c ∧ g ≠ q ∧ ∀ i, i < n → W.cell? ⟨g, o + i, none⟩ = some (.bool (LV i))) :
    Calls Try.prog 41 #[.pointer (some ⟨c, 0, none⟩), .slice A n cc] W fun e w' => e = .returned (.int .i64 (lookZ p n)) ∧ (∃ f', DS w w' pc b r c q (lookP p LV n) f') ∧ Upd (fun i => i = c ∨ i = q) W w' := by
  unfold lookZ
  by_cases hn : n = p.1.length
  · rw [if_pos hn]
    subst hn
    refine (rlook_is A cc LV hn2 W hf h.bt h.R hl).mono ?_
    rintro e w' ⟨he, ⟨f', hr, ht⟩, hu⟩
    have e2 : lookP p LV p.1.length = lookR LV p p.1.length := if_pos rfl
    exact ⟨he, ⟨f', h.ref (by rw [e2]; exact hr) (by rw [e2]; exact ht) hu⟩, hu⟩
  · rw [if_neg hn]
    refine (rlook_bad A n cc hn W h.R).mono ?_
    rintro e w' ⟨he, rfl⟩
    have e2 : lookP p LV n = p := if_neg hn
    exact ⟨he, ⟨f, h.ref (by rw [e2]; exact h.R) (by rw [e2]; exact h.bt) (Upd.refl _ _)⟩, Upd.refl _ _⟩
end
theorem lookP_length (p : List WR × WS) (LV : Nat → Bool) (n : Nat) : (lookP p LV n).1.length = p.1.length := by
  unfold lookP
  split
  · exact lookR_length _ _ _
  · rfl
set_option maxRecDepth 100000 in
set_option maxHeartbeats 16000000 in
theorem one1_look {w W : World} {pc b r c q : Nat} {p : List WR × WS} {f : Nat → Bool} (hh nn kk : Int) (LA : Option Addr) (ln lc : Nat) (LV : Nat → Bool) (hln : ln ≤ 400) (hLV : BoolsAt w LA ln LV) (h6 : hh % 7 = 0) (h : DS w W pc b r c q p f) :
    Calls Try.prog 26 #[.pointer (some ⟨pc, 0, none⟩), .pointer (some ⟨c, 0, none⟩), .agg #[.int .i64 hh, .int .i64 nn, .int .i64 kk, .slice LA ln lc]] W fun e w' => e = .returned (.bool true) ∧ ∃ b' r' p' f', p'.1.length = p.1.length ∧ DS w w' pc b' r' c q p' f' := by
  have H := Lib.hid h
  have HLV := Lib.hid hLV
  have c0 : W.cell? ⟨pc, 0, none⟩ = some (.pointer (some ⟨b, 0, none⟩)) := h.P.cell 0 rfl
  have hpl := h.P.lt
  clear h hLV
  go_enter Try.func26, Try.ntmps26
  go_wp2_with fail
  refine (pick_is hh _).mono ?_
  rintro e w1 ⟨rfl, rfl⟩
  rw [h6]
  obtain ⟨dd, hdd⟩ : ∃ x, x = W.heap.size := ⟨_, rfl⟩
  obtain ⟨wa, hwa⟩ : ∃ x, x = W.alloc (.cells #[.int .i64 hh, .int .i64 nn, .int .i64 kk, .slice LA ln lc] 45) := ⟨_, rfl⟩
  have HD := Lib.hid (show Blk wa dd #[.int .i64 hh, .int .i64 nn, .int .i64 kk, .slice LA ln lc] 45 by rw [hwa]; exact Blk.newAt hdd)
  have HA := Lib.hid (show DS w wa pc b r c q p f by rw [hwa]; exact H.out.non (Upd.refl _ _).alloc)
  have hne : dd ≠ b ∧ dd ≠ r ∧ dd ≠ c ∧ dd ≠ q := ⟨by have := H.out.B.ltb; omega, by have := H.out.B.lt; omega, by have := H.out.R.ltb; omega, by have := H.out.R.lt; omega⟩
  have HN := Lib.hid hne
  rw [← hdd, ← hwa]
  clear hwa hdd hne c0 hpl h6
  have f3 : wa.cell? ⟨dd, 3, none⟩ = some (.slice LA ln lc) := HD.out.cell 3 rfl
  have HC0 := Lib.hid (fun (W' : World) (u : Upd Non w W') (hp : 0 < ln) => (show ∃ g o, LA = some ⟨g, o, none⟩ ∧ g < w.heap.size ∧ ∀ i, i < ln → W'.cell? ⟨g, o + i, none⟩ = some (.bool (LV i)) by
    obtain ⟨a, o, e, hc⟩ := HLV.out hp
    exact ⟨a, o, e, World.block_lt_of_cell? _ _ (hc 0 hp), fun i hi => u.cell_eq id (hc i hi)⟩))
  have LT := Lib.hid (lentT_is LA ln lc LV (by omega) wa fun hp => by
    obtain ⟨a, o, e, _, hc⟩ := HC0.out wa HA.out.up hp
    exact ⟨a, o, e, hc⟩)
  go_wp2_with fail
  refine LT.out.mono ?_
  rintro e w2 ⟨g, cap, rfl, hL, hu2⟩
  have HA2 := Lib.hid (HA.out.non hu2)
  have HD2 := Lib.hid (Blk.upd hu2 HD.out id)
  have HL := Lib.hid hL
  have hgg := (own_cap hL.own).2.1
  have hgb : g ≠ b ∧ g ≠ r ∧ g ≠ c ∧ g ≠ q := ⟨by have := HA.out.B.ltb; omega, by have := HA.out.B.lt; omega, by have := HA.out.R.ltb; omega, by have := HA.out.R.lt; omega⟩
  have HG := Lib.hid hgb
  have f3' : w2.cell? ⟨dd, 3, none⟩ = some (.slice LA ln lc) := HD2.out.cell 3 rfl
  have LB := Lib.hid (ds_look (HA2.out.non (W' := w2.drew) (Upd.refl _ _).drew) (n := ln) (by omega) (some ⟨g, 0, none⟩) cap LV (fun hp => by
    obtain ⟨A7, c7, e7, h7⟩ := own_cells HL.out.own
    obtain ⟨g7, rfl, _, _, _, h8⟩ := h7 (by omega)
    simp only [Value.slice.injEq, Option.some.injEq, Addr.mk.injEq, and_true, true_and] at e7
    obtain ⟨rfl, rfl⟩ := e7
    exact ⟨g, 0, rfl, HG.out.1, HG.out.2.1, fun i hi => by rw [Nat.zero_add]; exact h8 i _ ((List.getElem?_append_left (by rw [bools_length]; exact hi)).trans (bools_at LV hi))⟩))
  clear hL hu2 hgg hgb f3 LT
  have KT := Lib.hid (fun (W' : World) (u : Upd (fun i => i = b ∨ i = r ∨ i = c ∨ i = q) w2 W') (hup : Upd Non w W') => keptT_is LA ln lc g cap LV (by omega) wa W' ⟨own_upd u HL.out.own (fun k hk e => by
    have e2 : g = k := by injection hk
    have := HG.out
    omega)⟩ (fun hp => by
    obtain ⟨a, o, e, _, hc⟩ := HC0.out W' hup hp
    exact ⟨a, o, e, hc⟩))
  go_wp2_with fail
  go_region_with (first
    | (go_at_call 12; refine LB.out.mono ?_; rintro e w5 ⟨rfl, hB, hu⟩; have HB := Lib.hid hB; have HU5 := Lib.hid (Upd.call (hu.mono (T := fun i => i = b ∨ i = r ∨ i = c ∨ i = q) fun _ _ h => h.elim (fun h => .inl h) fun h => .inr (.inl h)) (S := fun i => i = b ∨ i = r ∨ i = c ∨ i = q) (Upd.refl _ w2).drew fun _ _ h => h); have f3'' : w5.cell? ⟨dd, 3, none⟩ = some (.slice LA ln lc) := Blk.cell (Blk.upd HU5.out HD2.out (fun e => by have := HN.out; omega)) 3 rfl; clear hB hu)
    | (go_at_call 41; refine (dm_look HA.out.fit (n := ln) (by omega) LA lc LV HB.out (fun hp => by
        obtain ⟨a, o, e, hlt, hc⟩ := HC0.out _ HB.out.up hp
        have h1 := HB.out.lc
        have h2 := HB.out.lq
        exact ⟨a, o, e, by omega, by omega, hc⟩)).mono ?_; rintro e w6 ⟨rfl, ⟨f', hC⟩, hu⟩; have HC := Lib.hid hC; have HU6 := Lib.hid (Upd.call hu HU5.out fun _ _ h => h.elim (fun h => .inr (.inr (.inl h))) fun h => .inr (.inr (.inr h))); have f3''' : w6.cell? ⟨dd, 3, none⟩ = some (.slice LA ln lc) := Blk.cell (Blk.upd HU6.out HD2.out (fun e => by have := HN.out; omega)) 3 rfl; clear hC hu)
    | (go_at_call 42; refine (KT.out _ HU6.out HC.out.up).mono ?_; rintro e w7 ⟨rfl, hu7⟩; have HC7 := Lib.hid (HC.out.non hu7); clear hu7))
  all_goals
    go_wp2_with fail
    go_ret
    exact ⟨rfl, b, r, lookP p LV ln, f', lookP_length _ _ _, HC7.out⟩
end Go.Proofs.Ytkhhmkcpbefadaa
