/- The law's comparison of a timer with the document's. Conditions: as at each lemma. -/
import Derived.Test.YtmblplhehbdocaaTimerRef
namespace Go.Proofs.Ytmblplhehbdocaa
open Go.RowKit

/-- What is held over the comparison's calls. -/
def HT (w w' : World) (b bx : Nat) (s : TS) : Prop := TBlk w' b s ∧ Blk w' bx s.vals 66 ∧ Upd Non w w'
def ST (w w' : World) (b bx : Nat) (s : TS) : Prop :=
  w'.cell? ⟨bx, 0, none⟩ = some (.int .u32 s.c) ∧ w'.cell? ⟨bx, 1, none⟩ = some (.int .u32 s.l) ∧ w'.cell? ⟨bx, 2, none⟩ = some (.int .u32 s.k) ∧ w'.cell? ⟨bx, 3, none⟩ = some (.int .u32 s.h) ∧ Hid (HT w w' b bx s)
section
variable {w x y : World} {b bx : Nat} {s : TS}
theorem ST_of (h : HT w x b bx s) : ST w x b bx s := ⟨h.2.1.cell 0 rfl, h.2.1.cell 1 rfl, h.2.1.cell 2 rfl, h.2.1.cell 3 rfl, Lib.hid h⟩
theorem ST_upd (u : Upd Non x y) (h : ST w x b bx s) : ST w y b bx s := ST_of ⟨TBlk.upd u h.2.2.2.2.out.1 id, Blk.upd u h.2.2.2.2.out.2.1 id, Upd.call u h.2.2.2.2.out.2.2 fun _ _ h => h⟩
theorem ST_drew (h : ST w x b bx s) : ST w x.drew b bx s := ST_upd (Upd.refl Non x).drew h
abbrev STx (w x : World) (b bx : Nat) (s : TS) : Prop := x.cell? ⟨bx, 0, none⟩ = some (.int .u32 s.c) ∧ x.cell? ⟨bx, 1, none⟩ = some (.int .u32 s.l) ∧ x.cell? ⟨bx, 2, none⟩ = some (.int .u32 s.k) ∧ x.cell? ⟨bx, 3, none⟩ = some (.int .u32 s.h) ∧ Hid (HT w x b bx s)
theorem read_held (r : Int) (h : x.cell? ⟨bx, 0, none⟩ = some (.int .u32 s.c) ∧ x.cell? ⟨bx, 1, none⟩ = some (.int .u32 s.l) ∧ x.cell? ⟨bx, 2, none⟩ = some (.int .u32 s.k) ∧ x.cell? ⟨bx, 3, none⟩ = some (.int .u32 s.h) ∧ Hid (HT w x b bx s)) :
    Calls Try.prog 40 #[.pointer (some ⟨b, 0, none⟩), .int .i64 r] x fun e w' => e = .returned (.int .u32 (s.read r)) ∧ Upd Non x w' := read_spec b s r x h.2.2.2.2.out.1
theorem state_held (h : x.cell? ⟨bx, 0, none⟩ = some (.int .u32 s.c) ∧ x.cell? ⟨bx, 1, none⟩ = some (.int .u32 s.l) ∧ x.cell? ⟨bx, 2, none⟩ = some (.int .u32 s.k) ∧ x.cell? ⟨bx, 3, none⟩ = some (.int .u32 s.h) ∧ Hid (HT w x b bx s)) :
    Calls Try.prog 19 #[.pointer (some ⟨b, 0, none⟩)] x fun e w' => e = .returned (.agg #[.int .u32 s.c, .int .u32 s.l, .int .u32 s.k, .int .u32 s.h]) ∧ Upd Non x w' := state_spec b s x h.2.2.2.2.out.1
theorem line_held (hs : s.ok) (h : x.cell? ⟨bx, 0, none⟩ = some (.int .u32 s.c) ∧ x.cell? ⟨bx, 1, none⟩ = some (.int .u32 s.l) ∧ x.cell? ⟨bx, 2, none⟩ = some (.int .u32 s.k) ∧ x.cell? ⟨bx, 3, none⟩ = some (.int .u32 s.h) ∧ Hid (HT w x b bx s)) :
    Calls Try.prog 20 #[.pointer (some ⟨b, 0, none⟩)] x fun e w' => e = .returned (.bool s.line) ∧ Upd Non x w' := (line_spec b s hs x h.2.2.2.2.out.1).mono fun _ _ ⟨h1, h2⟩ => ⟨h1, h2 ▸ Upd.refl _ _⟩
end

set_option maxRecDepth 100000 in
set_option maxHeartbeats 8000000 in
theorem same_spec (b : Nat) (s : TS) (hs : s.ok) (w : World) (hb : TBlk w b s) :
    Calls Try.prog 35 #[.pointer (some ⟨b, 0, none⟩), .agg s.vals] w fun e w' => e = .returned (.bool true) ∧ Upd Non w w' := by
  have HB := Lib.hid hb
  have HS := Lib.hid hs
  clear hb hs
  unfold TS.vals
  go_enter Try.func35, Try.ntmps35
  go_wp2_with fail
  obtain ⟨bx, hbx⟩ : ∃ x, x = w.heap.size := ⟨_, rfl⟩
  rw [← hbx]
  have hX : Blk (w.alloc (.cells s.vals 66)) bx s.vals 66 := Blk.newAt hbx
  have hT : HT w (w.alloc (.cells s.vals 66)) b bx s := ⟨TBlk.upd (S := Non) (by ((with_reducible repeat' first | exact Upd.refl _ _ | apply Upd.drew | apply Upd.drewN | apply Upd.alloc | refine Upd.setCell ?_ ?_) <;> first | (intro _ _ h; exact h) | (intro _ _ h; exact h.elim) | (intro i h1 h2; exfalso; (try simp only at h2); omega) | (left; rfl) | (right; dsimp only; omega) | (right; omega))) HB.out id, hX, by ((with_reducible repeat' first | exact Upd.refl _ _ | apply Upd.drew | apply Upd.drewN | apply Upd.alloc | refine Upd.setCell ?_ ?_) <;> first | (intro _ _ h; exact h) | (intro _ _ h; exact h.elim) | (intro i h1 h2; exfalso; (try simp only at h2); omega) | (left; rfl) | (right; dsimp only; omega) | (right; omega))⟩
  have HT0 := Lib.hid hT
  clear hX hT hbx
  go_loopw [5] (fun i wr => ∃ t : Nat, t ≤ 10 ∧ i = .int .i64 ((t : Int) - 1) ∧ HT w wr b bx s) (fun i _ => 10 - (intOf i + 1).toNat)
  case atStart => exact ⟨0, by omega, rfl, HT0.out⟩
  case round =>
    clear HT0
    obtain ⟨t, ht, rfl, hh⟩ := hrel
    have hS0 := ST_of hh
    have d0 := hS0.1
    have d1 := hS0.2.1
    have d2 := hS0.2.2.1
    have d3 := hS0.2.2.2.1
    have dH := hS0.2.2.2.2
    clear hh hS0
    by_cases hlt : t < 10
    · have k1 : (t : Int) - 1 < 9 := by omega
      go_wp2_with fail
      go_region_held3 (fun w' => w'.cell? ⟨bx, 0, none⟩ = some (.int .u32 s.c) ∧ w'.cell? ⟨bx, 1, none⟩ = some (.int .u32 s.l) ∧ w'.cell? ⟨bx, 2, none⟩ = some (.int .u32 s.k) ∧ w'.cell? ⟨bx, 3, none⟩ = some (.int .u32 s.h) ∧ Hid (HT w w' b bx s)) (first | exact ST_drew ⟨d0, d1, d2, d3, dH⟩ | exact ST_upd (by assumption) (by assumption) | exact ST_drew (by assumption) | exact ST_upd (by assumption) ⟨d0, d1, d2, d3, dH⟩)
        (first | (go_at_call 40; refine Calls.mono (read_held (w := w) (bx := bx) (s := s) _ ?hh) ?_; (case hh => assumption); rintro e w5 ⟨rfl, U5⟩) | (go_at_call 74; refine Calls.mono (refRead_spec s _ _) ?_; rintro e w5 ⟨rfl, U5⟩))
      rename_i hS
      have HH := Lib.hid hS.2.2.2.2.out
      clear hS
      go_wp2_with fail
      go_roundw
      case rel => exact ⟨t + 1, by omega, by go_num, HH.out⟩
      case measure => simp [intOf]; omega
    · have k1 : ¬ (t : Int) - 1 < 9 := by omega
      go_wp2_with fail
      go_region_held3 (fun w' => w'.cell? ⟨bx, 0, none⟩ = some (.int .u32 s.c) ∧ w'.cell? ⟨bx, 1, none⟩ = some (.int .u32 s.l) ∧ w'.cell? ⟨bx, 2, none⟩ = some (.int .u32 s.k) ∧ w'.cell? ⟨bx, 3, none⟩ = some (.int .u32 s.h) ∧ Hid (HT w w' b bx s)) (first | exact ST_drew ⟨d0, d1, d2, d3, dH⟩ | exact ST_upd (by assumption) (by assumption) | exact ST_drew (by assumption) | exact ST_upd (by assumption) ⟨d0, d1, d2, d3, dH⟩)
        (first | (go_at_call 19; refine Calls.mono (state_held (w := w) (bx := bx) (s := s) ?hh) ?_; (case hh => assumption); rintro e w5 ⟨rfl, U5⟩) | (go_at_call 20; refine Calls.mono (line_held (w := w) (bx := bx) (s := s) HS.out ?hh) ?_; (case hh => assumption); rintro e w5 ⟨rfl, U5⟩) | (go_at_call 75; refine Calls.mono (refLine_spec s HS.out _) ?_; rintro e w5 ⟨rfl, U5⟩))
      rename_i hS
      have HH := Lib.hid hS.2.2.2.2.out
      clear hS
      go_wp2_with fail
      go_ret
      exact ⟨rfl, HH.out.2.2⟩
end Go.Proofs.Ytmblplhehbdocaa
