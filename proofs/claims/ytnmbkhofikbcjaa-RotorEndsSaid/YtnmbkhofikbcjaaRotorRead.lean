/- Contracts of the rotor's State, Read, Copy and of the document's rotor. Conditions: as at each lemma. -/
import Derived.Test.YtnmbkhofikbcjaaRotorVal
namespace Go.Proofs.Ytnmbkhofikbcjaa
open Go.RowKit Flt

theorem state_spec (b : Nat) (v n : Int) (hv : 0 ≤ v ∧ v ≤ 4294967295) (w : World) (hb : RBlk w b v n) :
    Calls Try.prog 40 #[.pointer (some ⟨b, 0, none⟩)] w fun e w' => e = .returned (.tuple #[.int .u32 v, .int .u32 n]) ∧ Upd Non w w' := by
  have H := Lib.hid hv
  have c0 : w.cell? ⟨b, 0, none⟩ = some (.complex .f64 (X v) (Y v)) := hb.cell 0 rfl
  have c1 : w.cell? ⟨b, 1, none⟩ = some (.int .u32 n) := hb.cell 1 rfl
  have c2 : w.cell? ⟨b, 2, none⟩ = some (.bool true) := hb.cell 2 rfl
  clear hb hv
  go_enter Try.func40, Try.ntmps40
  go_wp2_with fail
  refine (word_spec v H.out.1 H.out.2 _).mono ?_
  rintro e w1 ⟨rfl, U1⟩
  have d1 : w1.cell? ⟨b, 1, none⟩ = some (.int .u32 n) := U1.cell_eq id c1
  go_wp2_with fail
  go_region
  all_goals
    go_wp2_with fail
    go_ret2
    exact ⟨rfl, by ((with_reducible repeat' first | exact Upd.refl _ _ | apply Upd.drew | apply Upd.drewN | apply Upd.alloc | refine Upd.setCell ?_ ?_ | refine Upd.call U1 ?_ ?_) <;> first | (intro _ _ h; exact h) | (intro _ _ h; exact h.elim) | (intro i h1 h2; exfalso; (try simp only at h2); omega) | (left; rfl) | (right; dsimp only; omega) | (right; omega))⟩

/-- What a register reads as. -/
def rd (reg v n : Int) : Int := if reg = 0 then v else if reg = 4 then n else 0

theorem read_spec (b : Nat) (v n reg : Int) (hv : 0 ≤ v ∧ v ≤ 4294967295) (w : World) (hb : RBlk w b v n) :
    Calls Try.prog 41 #[.pointer (some ⟨b, 0, none⟩), .int .i64 reg] w fun e w' => e = .returned (.int .u32 (rd reg v n)) ∧ Upd Non w w' := by
  have H := Lib.hid hv
  have HB := Lib.hid hb
  clear hb hv
  by_cases h0 : reg = 0
  · subst h0
    go_enter Try.func41, Try.ntmps41
    go_wp2_with fail
    refine (state_spec b v n H.out _ HB.out).mono ?_
    rintro e w1 ⟨rfl, U1⟩
    go_wp2_with fail
    go_ret
    exact ⟨rfl, U1⟩
  · by_cases h4 : reg = 4
    · subst h4
      go_enter Try.func41, Try.ntmps41
      go_wp2_with fail
      refine (state_spec b v n H.out _ HB.out).mono ?_
      rintro e w1 ⟨rfl, U1⟩
      go_wp2_with fail
      go_ret
      exact ⟨rfl, U1⟩
    · have e : rd reg v n = 0 := by unfold rd; rw [if_neg h0, if_neg h4]
      rw [e]
      have b0 : (reg == 0) = false := by simpa using h0
      have b4 : (reg == 4) = false := by simpa using h4
      clear e
      go_enter Try.func41, Try.ntmps41
      go_wp2_with fail
      refine (state_spec b v n H.out _ HB.out).mono ?_
      rintro e w1 ⟨rfl, U1⟩
      go_wp2_with fail
      go_ret
      exact ⟨rfl, U1⟩

/-- The document's rotor at b. -/
def SBlk (w : World) (b : Nat) (v n : Int) : Prop := Blk w b #[.int .u32 v, .int .u32 n] 75

theorem refRead_spec (b : Nat) (v n reg : Int) (w : World) (hb : SBlk w b v n) :
    Calls Try.prog 42 #[.pointer (some ⟨b, 0, none⟩), .int .i64 reg] w fun e w' => e = .returned (.int .u32 (rd reg v n)) ∧ w = w' := by
  have c0 : w.cell? ⟨b, 0, none⟩ = some (.int .u32 v) := hb.cell 0 rfl
  have c1 : w.cell? ⟨b, 1, none⟩ = some (.int .u32 n) := hb.cell 1 rfl
  clear hb
  by_cases h0 : reg = 0
  · subst h0
    go_enter Try.func42, Try.ntmps42
    go_wp2_with fail
    go_ret
    exact ⟨rfl, rfl⟩
  · by_cases h4 : reg = 4
    · subst h4
      go_enter Try.func42, Try.ntmps42
      go_wp2_with fail
      go_ret
      exact ⟨rfl, rfl⟩
    · have e : rd reg v n = 0 := by unfold rd; rw [if_neg h0, if_neg h4]
      rw [e]
      have b0 : (reg == 0) = false := by simpa using h0
      have b4 : (reg == 4) = false := by simpa using h4
      clear e
      go_enter Try.func42, Try.ntmps42
      go_wp2_with fail
      go_ret
      exact ⟨rfl, rfl⟩

/-- The document's write. -/
theorem refWrite_0 (b : Nat) (v n x : Int) (w : World) (hb : SBlk w b v n) :
    Calls Try.prog 39 #[.pointer (some ⟨b, 0, none⟩), .int .i64 0, .int .u32 x] w fun e w' => e = .returned (.tuple #[]) ∧ SBlk w' b x n ∧ Upd (· = b) w w' := by
  have HB := Lib.hid hb
  have c0 : w.cell? ⟨b, 0, none⟩ = some (.int .u32 v) := hb.cell 0 rfl
  have f0 : w.frozen? ⟨b, 0, none⟩ = false := hb.frozen 0
  clear hb
  go_enter Try.func39, Try.ntmps39
  go_wp2_with fail
  refine bodyPost_ret (results_none rfl _ _ _) rfl ?_
  exact ⟨rfl, Blk.set HB.out, by ((with_reducible repeat' first | exact Upd.refl _ _ | apply Upd.drew | apply Upd.drewN | apply Upd.alloc | refine Upd.setCell ?_ ?_) <;> first | (intro _ _ h; exact h) | (intro _ _ h; exact h.elim) | (intro i h1 h2; exfalso; (try simp only at h2); omega) | (left; rfl) | (right; dsimp only; omega) | (right; omega))⟩
theorem refWrite_bad (b : Nat) (x reg : Int) (h : reg < 0 ∨ 3 < reg) (w : World) :
    Calls Try.prog 39 #[.pointer (some ⟨b, 0, none⟩), .int .i64 reg, .int .u32 x] w fun e w' => e = .returned (.tuple #[]) ∧ w = w' := by
  have n0 : (reg == 0) = false := by simp; omega
  have n1 : (reg == 1) = false := by simp; omega
  have n2 : (reg == 2) = false := by simp; omega
  have n3 : (reg == 3) = false := by simp; omega
  clear h
  go_enter Try.func39, Try.ntmps39
  go_wp2_with fail
  refine bodyPost_ret (results_none rfl _ _ _) rfl ?_
  exact ⟨rfl, rfl⟩
theorem refWrite_1 (b : Nat) (v n x : Int) (hv : 0 ≤ v ∧ v ≤ 4294967295) (hx : 0 ≤ x ∧ x ≤ 4294967295) (w : World) (hb : SBlk w b v n) :
    Calls Try.prog 39 #[.pointer (some ⟨b, 0, none⟩), .int .i64 1, .int .u32 x] w fun e w' => e = .returned (.tuple #[]) ∧ SBlk w' b (plusW v x) ((n + 1) % 4294967296) ∧ Upd (· = b) w w' := by
  have HB := Lib.hid hb
  have HV := Lib.hid hv
  have HX := Lib.hid hx
  have c0 : w.cell? ⟨b, 0, none⟩ = some (.int .u32 v) := hb.cell 0 rfl
  have f0 : w.frozen? ⟨b, 0, none⟩ = false := hb.frozen 0
  have c1 : w.cell? ⟨b, 1, none⟩ = some (.int .u32 n) := hb.cell 1 rfl
  have f1 : w.frozen? ⟨b, 1, none⟩ = false := hb.frozen 1
  clear hb hv hx
  go_enter Try.func39, Try.ntmps39
  go_wp2_with fail
  refine (refPlus_spec v x HV.out.1 HV.out.2 HX.out.1 HX.out.2 _).mono ?_
  rintro e w1 ⟨rfl, rfl⟩
  go_wp2_with fail
  go_end0
  exact ⟨rfl, Blk.set (Blk.set HB.out), by ((with_reducible repeat' first | exact Upd.refl _ _ | apply Upd.drew | apply Upd.drewN | apply Upd.alloc | refine Upd.setCell ?_ ?_) <;> first | (intro _ _ h; exact h) | (intro _ _ h; exact h.elim) | (intro i h1 h2; exfalso; (try simp only at h2); omega) | (left; rfl) | (right; dsimp only; omega) | (right; omega))⟩
set_option maxHeartbeats 4000000 in
theorem refWrite_2 (b : Nat) (v n x : Int) (hv : 0 ≤ v ∧ v ≤ 4294967295) (hx : 0 ≤ x ∧ x ≤ 4294967295) (w : World) (hb : SBlk w b v n) :
    Calls Try.prog 39 #[.pointer (some ⟨b, 0, none⟩), .int .i64 2, .int .u32 x] w fun e w' => e = .returned (.tuple #[]) ∧ SBlk w' b (timesW v x) ((n + 1) % 4294967296) ∧ Upd (· = b) w w' := by
  have HB := Lib.hid hb
  have HV := Lib.hid hv
  have HX := Lib.hid hx
  have c0 : w.cell? ⟨b, 0, none⟩ = some (.int .u32 v) := hb.cell 0 rfl
  have f0 : w.frozen? ⟨b, 0, none⟩ = false := hb.frozen 0
  have c1 : w.cell? ⟨b, 1, none⟩ = some (.int .u32 n) := hb.cell 1 rfl
  have f1 : w.frozen? ⟨b, 1, none⟩ = false := hb.frozen 1
  clear hb hv hx
  go_enter Try.func39, Try.ntmps39
  go_wp2_with fail
  refine (refTimes_spec v x HV.out.1 HV.out.2 HX.out.1 HX.out.2 _).mono ?_
  rintro e w1 ⟨rfl, rfl⟩
  go_wp2_with fail
  go_end0
  exact ⟨rfl, Blk.set (Blk.set HB.out), by ((with_reducible repeat' first | exact Upd.refl _ _ | apply Upd.drew | apply Upd.drewN | apply Upd.alloc | refine Upd.setCell ?_ ?_) <;> first | (intro _ _ h; exact h) | (intro _ _ h; exact h.elim) | (intro i h1 h2; exfalso; (try simp only at h2); omega) | (left; rfl) | (right; dsimp only; omega) | (right; omega))⟩
set_option maxHeartbeats 4000000 in
theorem refWrite_3 (b : Nat) (v n x : Int) (hv : 0 ≤ v ∧ v ≤ 4294967295) (hx : 0 ≤ x ∧ x ≤ 4294967295) (w : World) (hb : SBlk w b v n) :
    Calls Try.prog 39 #[.pointer (some ⟨b, 0, none⟩), .int .i64 3, .int .u32 x] w fun e w' => e = .returned (.tuple #[]) ∧ SBlk w' b (turnW (x % 4).toNat v) ((n + 1) % 4294967296) ∧ Upd (· = b) w w' := by
  have HB := Lib.hid hb
  have HV := Lib.hid hv
  have HX := Lib.hid hx
  have c0 : w.cell? ⟨b, 0, none⟩ = some (.int .u32 v) := hb.cell 0 rfl
  have f0 : w.frozen? ⟨b, 0, none⟩ = false := hb.frozen 0
  have c1 : w.cell? ⟨b, 1, none⟩ = some (.int .u32 n) := hb.cell 1 rfl
  have f1 : w.frozen? ⟨b, 1, none⟩ = false := hb.frozen 1
  clear hb hv hx
  go_enter Try.func39, Try.ntmps39
  go_wp2_with fail
  refine (refTurn_spec v x HV.out.1 HV.out.2 HX.out.1 HX.out.2 _).mono ?_
  rintro e w1 ⟨rfl, rfl⟩
  go_wp2_with fail
  go_end0
  exact ⟨rfl, Blk.set (Blk.set HB.out), by ((with_reducible repeat' first | exact Upd.refl _ _ | apply Upd.drew | apply Upd.drewN | apply Upd.alloc | refine Upd.setCell ?_ ?_) <;> first | (intro _ _ h; exact h) | (intro _ _ h; exact h.elim) | (intro i h1 h2; exfalso; (try simp only at h2); omega) | (left; rfl) | (right; dsimp only; omega) | (right; omega))⟩

set_option maxHeartbeats 4000000 in
theorem copy_spec (b : Nat) (v n : Int) (w : World) (hb : RBlk w b v n) :
    Calls Try.prog 43 #[.pointer (some ⟨b, 0, none⟩)] w fun e w' => e = .returned (.pointer (some ⟨w.heap.size, 0, none⟩)) ∧ RBlk w' w.heap.size v n ∧ Upd Non w w' := by
  have c0 : w.cell? ⟨b, 0, none⟩ = some (.complex .f64 (X v) (Y v)) := hb.cell 0 rfl
  have c1 : w.cell? ⟨b, 1, none⟩ = some (.int .u32 n) := hb.cell 1 rfl
  have c2 : w.cell? ⟨b, 2, none⟩ = some (.bool true) := hb.cell 2 rfl
  have hlt := hb.lt
  clear hb
  have hst := fun a x y m w => store_c a x y m w
  go_enter Try.func43, Try.ntmps43
  go_wp2_with fail
  go_ret
  exact ⟨rfl, Blk.new _ _ _, by ((with_reducible repeat' first | exact Upd.refl _ _ | apply Upd.drew | apply Upd.drewN | apply Upd.alloc | refine Upd.setCell ?_ ?_) <;> first | (intro _ _ h; exact h) | (intro _ _ h; exact h.elim) | (intro i h1 h2; exfalso; (try simp only at h2); omega) | (left; rfl) | (right; dsimp only; omega) | (right; omega))⟩
end Go.Proofs.Ytnmbkhofikbcjaa
