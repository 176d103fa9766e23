/- A board's memory as one predicate, and its small contracts over it, with all arguments. No condition. -/
import Derived.Test.YtkhhmkcpbefadaaIrqRow
import Derived.Test.YtkhhmkcpbefadaaIrqCall
namespace Go.Proofs.Ytkhhmkcpbefadaa
open Go.RowKit
/-- A board lies in block b, its wires in block r (b itself, if it has none). -/
structure BI (w : World) (b r : Nat) (ws : List WR) (s : WS) : Prop where
  ex : ∃ v, BBlk w b v s ∧ Wires w v ws r ∧ (r ≠ b ∨ (ws = [] ∧ v = .slice none 0 0))
  lt : r < w.heap.size
theorem BI.upd {S : Nat → Prop} {w w' : World} {b r : Nat} {ws : List WR} {s : WS} (u : Upd S w w') (h : BI w b r ws s) (hb : ¬ S b) (hr : ¬ S r) : BI w' b r ws s := by
  obtain ⟨v, h1, h2, h3⟩ := h.ex
  exact ⟨⟨v, h1.upd u hb, h2.upd u hr, h3⟩, Nat.lt_of_lt_of_le h.lt u.size⟩
theorem BI.non {w w' : World} {b r : Nat} {ws : List WR} {s : WS} (u : Upd Non w w') (h : BI w b r ws s) : BI w' b r ws s := h.upd u id id
theorem BI.ltb {w : World} {b r : Nat} {ws : List WR} {s : WS} (h : BI w b r ws s) : b < w.heap.size := by
  obtain ⟨v, h1, h2, h3⟩ := h.ex
  exact Blk.lt h1
/-- What holds of all that a board has. -/
structure Fit (ws : List WR) (s : WS) : Prop where
  wire : ∀ (i : Nat) (x : WR), ws[i]? = some x → -1 ≤ x.ow ∧ x.ow < 8 ∧ -1 ≤ x.ln ∧ x.ln < 8
  wt : ∀ k, s.wt k < 256
  le : ∀ k, s.le k < 256
/-- The board's block alone turned. -/
theorem BI.put {w w' : World} {b r : Nat} {ws : List WR} {s' : WS} {v : Value} (hw : Wires w v ws r) (h3 : r ≠ b ∨ (ws = [] ∧ v = .slice none 0 0)) (hlt : r < w.heap.size)
    (hb : BBlk w' b v s') (u : Upd (fun i => i = b) w w') : BI w' b r ws s' := by
  refine ⟨⟨v, hb, ?_, h3⟩, Nat.lt_of_lt_of_le hlt u.size⟩
  rcases h3 with h3 | ⟨h3, h4⟩
  · exact hw.upd u h3
  · subst h3; subst h4; exact .inl ⟨rfl, rfl⟩
theorem mask_b {ws : List WR} {s : WS} {b r k m : Nat} (hk : k < 8) (w : World) (h : BI w b r ws s) :
    Calls Try.prog 11 #[.pointer (some ⟨b, 0, none⟩), .int .i64 k, .int .u8 m] w fun e w' => e = .returned (.int .i64 0) ∧ BI w' b r ws (s.setL k m) ∧ Upd (fun i => i = b) w w' := by
  obtain ⟨v, h1, h2, h3⟩ := h.ex
  refine (mask_is hk w h1).mono ?_
  rintro e w1 ⟨rfl, hb, hu⟩
  exact ⟨rfl, BI.put h2 h3 h.lt hb hu, hu⟩
theorem mask_bad {ws : List WR} {s : WS} {b r m : Nat} {k : Int} (hk : badW k) (w : World) (h : BI w b r ws s) :
    Calls Try.prog 11 #[.pointer (some ⟨b, 0, none⟩), .int .i64 k, .int .u8 m] w fun e w' => e = .returned (.int .i64 6) ∧ w = w' := by
  obtain ⟨v, h1, _, _⟩ := h.ex
  have HB := Lib.hid h1
  clear h h1
  go_enter Try.func11, Try.ntmps11
  go_wp2_with (first | (go_at_call 30; refine (there_is _ HB.out).mono ?_; rintro e w1 ⟨rfl, rfl⟩) | (go_at_call 31; refine (of_bad b k hk _).mono ?_; rintro e w1 ⟨rfl, rfl⟩))
  go_ret
  exact ⟨rfl, rfl⟩
theorem pend_b {ws : List WR} {s : WS} {b r k : Nat} (hk : k < 8) (w : World) (h : BI w b r ws s) :
    Calls Try.prog 13 #[.pointer (some ⟨b, 0, none⟩), .int .i64 k] w fun e w' => e = .returned (.int .u8 (s.wt k)) ∧ w = w' := by
  obtain ⟨v, h1, _, _⟩ := h.ex
  exact pend_is hk w h1
theorem lets_b {ws : List WR} {s : WS} {b r k : Nat} (hk : k < 8) (w : World) (h : BI w b r ws s) :
    Calls Try.prog 21 #[.pointer (some ⟨b, 0, none⟩), .int .i64 k] w fun e w' => e = .returned (.int .u8 (s.le k)) ∧ w = w' := by
  obtain ⟨v, h1, _, _⟩ := h.ex
  exact lets_is hk w h1
theorem pend_bad {ws : List WR} {s : WS} {b r : Nat} {k : Int} (hk : badW k) (w : World) (h : BI w b r ws s) :
    Calls Try.prog 13 #[.pointer (some ⟨b, 0, none⟩), .int .i64 k] w fun e w' => e = .returned (.int .u8 0) ∧ w = w' := by
  obtain ⟨v, h1, _, _⟩ := h.ex
  have HB := Lib.hid h1
  clear h h1
  go_enter Try.func13, Try.ntmps13
  go_wp2_with (first | (go_at_call 30; refine (there_is _ HB.out).mono ?_; rintro e w1 ⟨rfl, rfl⟩) | (go_at_call 31; refine (of_bad b k hk _).mono ?_; rintro e w1 ⟨rfl, rfl⟩))
  go_ret
  exact ⟨rfl, rfl⟩
theorem lets_bad {ws : List WR} {s : WS} {b r : Nat} {k : Int} (hk : badW k) (w : World) (h : BI w b r ws s) :
    Calls Try.prog 21 #[.pointer (some ⟨b, 0, none⟩), .int .i64 k] w fun e w' => e = .returned (.int .u8 0) ∧ w = w' := by
  obtain ⟨v, h1, _, _⟩ := h.ex
  have HB := Lib.hid h1
  clear h h1
  go_enter Try.func21, Try.ntmps21
  go_wp2_with (first | (go_at_call 30; refine (there_is _ HB.out).mono ?_; rintro e w1 ⟨rfl, rfl⟩) | (go_at_call 31; refine (of_bad b k hk _).mono ?_; rintro e w1 ⟨rfl, rfl⟩))
  go_ret
  exact ⟨rfl, rfl⟩
theorem callbad_b {ws : List WR} {s : WS} {b r : Nat} {k : Int} (hk : badW k) (w : World) (h : BI w b r ws s) :
    Calls Try.prog 14 #[.pointer (some ⟨b, 0, none⟩), .int .i64 k] w fun e w' => e = .returned (.tuple #[.int .i64 0, .bool false]) ∧ Upd Non w w' := by
  obtain ⟨v, h1, _, _⟩ := h.ex
  have HB := Lib.hid h1
  clear h h1
  go_enter Try.func14, Try.ntmps14
  go_wp2_with (first | (go_at_call 30; refine (there_is _ HB.out).mono ?_; rintro e w1 ⟨rfl, rfl⟩) | (go_at_call 31; refine (of_bad b k hk _).mono ?_; rintro e w1 ⟨rfl, rfl⟩))
  go_quiet (fail)
  go_wp2_with fail
  go_ret2
  exact ⟨rfl, by ((with_reducible repeat' first | exact Upd.refl _ _ | apply Upd.drew | apply Upd.drewN | apply Upd.alloc | refine Upd.setCell ?_ ?_) <;> first | (intro _ _ h; exact h) | (intro _ _ h; exact h.elim) | (intro i h1 h2; exfalso; (try simp only at h2); omega) | (left; rfl) | (right; dsimp only; omega) | (right; omega))⟩
/-- What a call tells and leaves. -/
def callR (s : WS) (k : Nat) : Int × Bool := if s.wt k &&& s.le k = 0 then (0, false) else (low (s.wt k &&& s.le k), true)
def callS (s : WS) (k : Nat) : WS := if s.wt k &&& s.le k = 0 then s else s.setW k (clr (s.wt k) (low (s.wt k &&& s.le k)))
theorem call_b {ws : List WR} {s : WS} {b r k : Nat} (hk : k < 8) (hf : Fit ws s) (w : World) (h : BI w b r ws s) :
    Calls Try.prog 14 #[.pointer (some ⟨b, 0, none⟩), .int .i64 k] w fun e w' => e = .returned (.tuple #[.int .i64 (callR s k).1, .bool (callR s k).2]) ∧ BI w' b r ws (callS s k) ∧ Upd (fun i => i = b) w w' := by
  obtain ⟨v, h1, h2, h3⟩ := h.ex
  by_cases h0 : s.wt k &&& s.le k = 0
  · refine (call_no hk (hf.wt k) (hf.le k) h0 w h1).mono ?_
    rintro e w1 ⟨rfl, hu⟩
    rw [callR, callS, if_pos h0, if_pos h0]
    exact ⟨rfl, h.non hu, hu.mono fun _ _ h => h.elim⟩
  · refine (call_yes hk (hf.wt k) (hf.le k) h0 rfl w h1).mono ?_
    rintro e w1 ⟨rfl, hb, hu⟩
    rw [callR, callS, if_neg h0, if_neg h0]
    exact ⟨rfl, BI.put h2 h3 h.lt hb hu, hu⟩
theorem clr_lt {a k : Nat} (h : a < 256) : clr a k < 256 := by unfold clr; split; exact Nat.lt_of_le_of_lt (Nat.sub_le _ _) h; exact h
theorem Fit.setL {ws : List WR} {s : WS} {k m : Nat} (h : Fit ws s) (hm : m < 256) : Fit ws (s.setL k m) :=
  ⟨h.wire, h.wt, fun j => by show (if j = k then m else s.le j) < 256; split; exact hm; exact h.le j⟩
theorem Fit.setW {ws : List WR} {s : WS} {k m : Nat} (h : Fit ws s) (hm : m < 256) : Fit ws (s.setW k m) :=
  ⟨h.wire, fun j => by show (if j = k then m else s.wt j) < 256; split; exact hm; exact h.wt j, h.le⟩
theorem Fit.called {ws : List WR} {s : WS} {k : Nat} (h : Fit ws s) : Fit ws (callS s k) := by
  unfold callS
  split
  · exact h
  · exact h.setW (clr_lt (h.wt k))
end Go.Proofs.Ytkhhmkcpbefadaa
