/- Contracts of the rotor's point methods (put, plus, times, turn). Conditions: as at each lemma. -/
import Derived.Test.YtnmbkhofikbcjaaRotorReg
namespace Go.Proofs.Ytnmbkhofikbcjaa
open Go.RowKit Flt

theorem store_c (a : Addr) (x y : Nat) (m) (w : World) : (store a (.complex .f64 x y) m).run Try.prog w = stored Try.prog w a (.complex .f64 x y) m := run_store Try.prog w a _ m rfl

theorem RBlk.set {w : World} {b : Nat} {v n : Int} (h : RBlk w b v n) (u : Int) : RBlk (w.setCell ⟨b, 0, none⟩ (.complex .f64 (X u) (Y u))) b u n := Blk.set h

theorem RBlk.upd {a w : World} {b : Nat} {v n : Int} (u : Upd Non a w) (h : RBlk a b v n) : RBlk w b v n := Blk.upd u h id

theorem put_spec (b : Nat) (v n x : Int) (hx : 0 ≤ x ∧ x ≤ 4294967295) (w : World) (hb : RBlk w b v n) :
    Calls Try.prog 57 #[.pointer (some ⟨b, 0, none⟩), .int .u32 x] w fun e w' => e = .returned (.tuple #[]) ∧ RBlk w' b x n ∧ Upd (· = b) w w' := by
  have HB := Lib.hid hb
  have H := Lib.hid hx
  have c0 : w.cell? ⟨b, 0, none⟩ = some (.complex .f64 (X v) (Y v)) := hb.cell 0 rfl
  have f0 : w.frozen? ⟨b, 0, none⟩ = false := hb.frozen 0
  clear hb hx
  have hst := fun a x y m w => store_c a x y m w
  go_enter Try.func57, Try.ntmps57
  go_wp2_with fail
  refine (point_spec' x H.out.1 H.out.2 _).mono ?_
  rintro e w1 ⟨rfl, rfl⟩
  go_wp2_with fail
  go_end0
  exact ⟨rfl, HB.out.set x, by ((with_reducible repeat' first | exact Upd.refl _ _ | apply Upd.drew | apply Upd.drewN | apply Upd.alloc | refine Upd.setCell ?_ ?_) <;> first | (intro _ _ h; exact h) | (intro _ _ h; exact h.elim) | (intro i h1 h2; exfalso; (try simp only at h2); omega) | (left; rfl) | (right; dsimp only; omega) | (right; omega))⟩

theorem plusM_spec (b : Nat) (v n x : Int) (hx : 0 ≤ x ∧ x ≤ 4294967295) (w : World) (hb : RBlk w b v n) :
    Calls Try.prog 58 #[.pointer (some ⟨b, 0, none⟩), .int .u32 x] w fun e w' => e = .returned (.tuple #[]) ∧ RBlk w' b (plusW v x) n ∧ Upd (· = b) w w' := by
  have HB := Lib.hid hb
  have H := Lib.hid hx
  have c0 : w.cell? ⟨b, 0, none⟩ = some (.complex .f64 (X v) (Y v)) := hb.cell 0 rfl
  have f0 : w.frozen? ⟨b, 0, none⟩ = false := hb.frozen 0
  have hlt := hb.lt
  clear hb hx
  have hst := fun a x y m w => store_c a x y m w
  go_enter Try.func58, Try.ntmps58
  go_wp2_with fail
  go_region_with (first
    | (go_at_call 25; refine (point_spec' x H.out.1 H.out.2 _).mono ?_; rintro e w1 ⟨rfl, rfl⟩)
    | (go_at_call 26; refine (plus_spec v x _).mono ?_; rintro e w1 ⟨rfl, U1⟩; have c1 := U1.cell_eq id c0; have f1 : w1.frozen? ⟨b, 0, none⟩ = false := (U1.frozen hlt id).trans f0))
  all_goals
    go_end0
    exact ⟨rfl, RBlk.set (RBlk.upd U1 HB.out) _, by ((with_reducible repeat' first | exact Upd.refl _ _ | apply Upd.drew | apply Upd.drewN | apply Upd.alloc | refine Upd.setCell ?_ ?_ | refine Upd.call U1 ?_ ?_) <;> first | (intro _ _ h; exact h) | (intro _ _ h; exact h.elim) | (intro i h1 h2; exfalso; (try simp only at h2); omega) | (left; rfl) | (right; dsimp only; omega) | (right; omega))⟩
theorem timesM_spec (b : Nat) (v n x : Int) (hx : 0 ≤ x ∧ x ≤ 4294967295) (w : World) (hb : RBlk w b v n) :
    Calls Try.prog 59 #[.pointer (some ⟨b, 0, none⟩), .int .u32 x] w fun e w' => e = .returned (.tuple #[]) ∧ RBlk w' b (timesW v x) n ∧ Upd (· = b) w w' := by
  have HB := Lib.hid hb
  have H := Lib.hid hx
  have c0 : w.cell? ⟨b, 0, none⟩ = some (.complex .f64 (X v) (Y v)) := hb.cell 0 rfl
  have f0 : w.frozen? ⟨b, 0, none⟩ = false := hb.frozen 0
  have hlt := hb.lt
  clear hb hx
  have hst := fun a x y m w => store_c a x y m w
  go_enter Try.func59, Try.ntmps59
  go_wp2_with fail
  go_region_with (first
    | (go_at_call 25; refine (point_spec' x H.out.1 H.out.2 _).mono ?_; rintro e w1 ⟨rfl, rfl⟩)
    | (go_at_call 27; refine (times_spec v x _).mono ?_; rintro e w1 ⟨rfl, U1⟩; have c1 := U1.cell_eq id c0; have f1 : w1.frozen? ⟨b, 0, none⟩ = false := (U1.frozen hlt id).trans f0))
  all_goals
    go_end0
    exact ⟨rfl, RBlk.set (RBlk.upd U1 HB.out) _, by ((with_reducible repeat' first | exact Upd.refl _ _ | apply Upd.drew | apply Upd.drewN | apply Upd.alloc | refine Upd.setCell ?_ ?_ | refine Upd.call U1 ?_ ?_) <;> first | (intro _ _ h; exact h) | (intro _ _ h; exact h.elim) | (intro i h1 h2; exfalso; (try simp only at h2); omega) | (left; rfl) | (right; dsimp only; omega) | (right; omega))⟩
theorem turnM_spec (b : Nat) (v n x : Int) (hx : 0 ≤ x ∧ x ≤ 4294967295) (w : World) (hb : RBlk w b v n) :
    Calls Try.prog 60 #[.pointer (some ⟨b, 0, none⟩), .int .u32 x] w fun e w' => e = .returned (.tuple #[]) ∧ RBlk w' b (turnW (x % 4).toNat v) n ∧ Upd (· = b) w w' := by
  have HB := Lib.hid hb
  have H := Lib.hid hx
  have c0 : w.cell? ⟨b, 0, none⟩ = some (.complex .f64 (X v) (Y v)) := hb.cell 0 rfl
  have f0 : w.frozen? ⟨b, 0, none⟩ = false := hb.frozen 0
  have hlt := hb.lt
  clear hb hx
  have hst := fun a x y m w => store_c a x y m w
  go_enter Try.func60, Try.ntmps60
  go_wp2_with fail
  refine (turn_spec v x H.out.1 H.out.2 _).mono ?_
  rintro e w1 ⟨rfl, U1⟩
  have c1 := U1.cell_eq id c0
  have f1 : w1.frozen? ⟨b, 0, none⟩ = false := (U1.frozen hlt id).trans f0
  go_wp2_with fail
  go_end0
  exact ⟨rfl, RBlk.set (RBlk.upd U1 HB.out) _, by ((with_reducible repeat' first | exact Upd.refl _ _ | apply Upd.drew | apply Upd.drewN | apply Upd.alloc | refine Upd.setCell ?_ ?_ | refine Upd.call U1 ?_ ?_) <;> first | (intro _ _ h; exact h) | (intro _ _ h; exact h.elim) | (intro i h1 h2; exfalso; (try simp only at h2); omega) | (left; rfl) | (right; dsimp only; omega) | (right; omega))⟩

end Go.Proofs.Ytnmbkhofikbcjaa
