/- Contracts of the rotor's functions (rotor). Conditions: as at each lemma. -/
import Derived.Test.YtnmbkhofikbcjaaRotorIs
import Derived.Test.YtnmbkhofikbcjaaRotorRef
namespace Go.Proofs.Ytnmbkhofikbcjaa
open Go.RowKit Flt

theorem cvIS (v : Int) (w : World) : (convert 29 104 (.int .u32 v)).run Try.prog w = .ok (.int .i16 (w16 v)) w := by
  simp [convert, run_underlying Try.underlying29, run_underlying Try.underlying104, Conv.intToInt, w16]
theorem cvSU (n : Int) (w : World) : (convert 104 103 (.int .i16 n)).run Try.prog w = .ok (.int .u16 (IntKind.u16.wrap n)) w := by
  simp [convert, run_underlying Try.underlying104, run_underlying Try.underlying103, Conv.intToInt]
theorem fl_range {a : Int} (h : -32768 ≤ a ∧ a ≤ 32767) : Rep (fl a) a := rep_fl a (by omega)
theorem may_fl {a : Int} (h : -32768 ≤ a ∧ a ≤ 32767) : mayB (fl a) = true := (may_of_ok (fl_range h) h.1 h.2).2.2

set_option maxHeartbeats 4000000 in
theorem point_spec (v : Int) (h0 : 0 ≤ v) (_h1 : v ≤ 4294967295) (w : World) :
    Calls Try.prog 25 #[.int .u32 v] w fun e w' => e = .returned (.complex .f64 (fl (w16 v)) (fl (w16 (hiOf v)))) ∧ w = w' := by
  have e3 : v.tdiv 65536 = hiOf v := Int.tdiv_eq_ediv_of_nonneg h0
  have q1 := fun w => cvIS v w
  have q2 := fun w => cvIS (hiOf v) w
  have q3 := fun w => cvIF (w16 v) w
  have q4 := fun w => cvIF (w16 (hiOf v)) w
  have q5 := fun w => rComplex (fl (w16 v)) (fl (w16 (hiOf v))) w
  clear h0
  go_enter Try.func25, Try.ntmps25
  go_wp2_with fail
  go_ret
  exact ⟨rfl, rfl⟩
theorem wrap_u32_nat {n : Nat} (h : n < 4294967296) : IntKind.u32.wrap (n : Int) = n := by
  simp [IntKind.wrap, IntKind.signed, IntKind.bits]; omega
theorem or_word {A B : Nat} (hA : A < 65536) (hB : B < 65536) : bits BinOp.or IntKind.u32 (A : Int) ((B * 65536 : Nat) : Int) = (A + 65536 * B : Nat) := by
  show IntKind.u32.wrap (BitVec.ofInt 32 (A : Int) ||| BitVec.ofInt 32 ((B * 65536 : Nat) : Int)).toNat = _
  rw [BitVec.ofInt_natCast, BitVec.ofInt_natCast, BitVec.toNat_or, BitVec.toNat_ofNat, BitVec.toNat_ofNat, Nat.mod_eq_of_lt (by omega), Nat.mod_eq_of_lt (by omega)]
  have h := Nat.shiftLeft_add_eq_or_of_lt (b := A) (i := 16) (by omega) B
  rw [Nat.shiftLeft_eq, show (2 : Nat) ^ 16 = 65536 from rfl] at h
  rw [Nat.or_comm, ← h, wrap_u32_nat (by omega)]
  congr 1; omega
theorem and_three {k : Int} (h0 : 0 ≤ k) (h1 : k ≤ 4294967295) : bits BinOp.and IntKind.u32 k 3 = ((k % 4).toNat : Int) := by
  obtain ⟨n, rfl⟩ := Int.eq_ofNat_of_zero_le h0
  show IntKind.u32.wrap (BitVec.ofInt 32 (n : Int) &&& BitVec.ofInt 32 3).toNat = _
  rw [BitVec.ofInt_natCast, show (BitVec.ofInt 32 3) = BitVec.ofNat 32 3 from rfl, BitVec.toNat_and, BitVec.toNat_ofNat, BitVec.toNat_ofNat, Nat.mod_eq_of_lt (by omega)]
  have h := Nat.and_two_pow_sub_one_eq_mod n 2
  rw [show (2 : Nat) ^ 2 - 1 = 3 from rfl, show (2 : Nat) ^ 2 = 4 from rfl] at h
  rw [show 3 % 2 ^ 32 = 3 from rfl, h, wrap_u32_nat (by omega)]
  omega
theorem u16_is (n : Int) : IntKind.u16.wrap n = n % 65536 := by simp [IntKind.wrap, IntKind.signed, IntKind.bits]
theorem word_num (a b : Int) : bits BinOp.or IntKind.u32 (IntKind.u16.wrap a % 4294967296) (IntKind.u16.wrap b % 4294967296 * 65536 % 4294967296) = wordOf a b := by
  rw [u16_is, u16_is]
  have h := or_word (A := (a % 65536).toNat) (B := (b % 65536).toNat) (by omega) (by omega)
  rw [show (((a % 65536).toNat : Nat) : Int) = a % 65536 % 4294967296 from by omega, show (((b % 65536).toNat * 65536 : Nat) : Int) = b % 65536 % 4294967296 * 65536 % 4294967296 from by omega] at h
  rw [h]
  unfold wordOf
  omega
theorem rowVals {w : World} {cs : Array Value} {t : TypeId} (j : Nat) {v : Value} (h : cs[j]? = some v) : (w.alloc (.cells cs t)).cell? ⟨w.heap.size, j, none⟩ = some v := (Blk.new w cs t).cell j h

/-- A point's word. -/
theorem word_yes (x y : Nat) (a b : Int) (hx : Rep x a) (hy : Rep y b) (ha : -32768 ≤ a ∧ a ≤ 32767) (hb : -32768 ≤ b ∧ b ≤ 32767) (w : World) :
    Calls Try.prog 23 #[.complex .f64 x y] w fun e w' => e = .returned (.tuple #[.int .u32 (wordOf a b), .bool true]) ∧ Upd Non w w' := by
  have m1 := (may_of_ok hx ha.1 ha.2).2.2
  have m2 := (may_of_ok hy hb.1 hb.2).2.2
  have q1 := fun w => rReal x y w
  have q2 := fun w => rImag x y w
  have q3 := fun w => cvFS hx ha.1 ha.2 w
  have q4 := fun w => cvFS hy hb.1 hb.2 w
  have q5 := fun w => cvSU a w
  have q6 := fun w => cvSU b w
  have M1 := Lib.hid m1
  have M2 := Lib.hid m2
  clear m1 m2 hx hy ha hb
  go_enter Try.func23, Try.ntmps23
  go_wp2_with fail
  refine (is_yes 1 (by decide) (fun _ => x) (fun _ => y) _ _ (fun _ _ => ⟨M1.out, M2.out⟩) _ (fun j hj => ?_)).mono ?_
  · obtain rfl : j = 0 := by omega
    exact rowVals 0 rfl
  rintro e w1 ⟨rfl, rfl⟩
  go_wp2_with fail
  have e0 := word_num a b
  rw [e0]
  go_ret2
  exact ⟨rfl, by ((with_reducible repeat' first | exact Upd.refl _ _ | apply Upd.drew | apply Upd.drewN | apply Upd.alloc | refine Upd.setCell ?_ ?_) <;> first | (intro _ _ h; exact h) | (intro _ _ h; exact h.elim) | (intro i h1 h2; exfalso; (try simp only at h2); omega) | (left; rfl) | (right; dsimp only; omega) | (right; omega))⟩
/-- The test of one number, of two. -/
theorem is_one (x y : Nat) (g c : Nat) (w : World) (h : w.cell? ⟨g, 0, none⟩ = some (.complex .f64 x y)) :
    Calls Try.prog 53 #[.slice (some ⟨g, 0, none⟩) 1 c] w fun e w' => e = .returned (.bool (mayB x && mayB y)) ∧ w = w' := by
  have hc : ∀ j, j < 1 → w.cell? ⟨g, j, none⟩ = some (.complex .f64 ((fun _ => x) j) ((fun _ => y) j)) := by
    intro j hj
    obtain rfl : j = 0 := by omega
    exact h
  cases e : (mayB x && mayB y)
  · exact is_no 1 0 (by decide) (by decide) _ _ g c (fun j hj => absurd hj (by omega)) e w hc
  · have h2 := Bool.and_eq_true_iff.1 e
    exact is_yes 1 (by decide) _ _ g c (fun j hj => h2) w hc
theorem is_two (x y x' y' : Nat) (g c : Nat) (w : World) (h : w.cell? ⟨g, 0, none⟩ = some (.complex .f64 x y)) (h' : w.cell? ⟨g, 1, none⟩ = some (.complex .f64 x' y')) :
    Calls Try.prog 53 #[.slice (some ⟨g, 0, none⟩) 2 c] w fun e w' => e = .returned (.bool ((mayB x && mayB y) && (mayB x' && mayB y'))) ∧ w = w' := by
  have hc : ∀ j, j < 2 → w.cell? ⟨g, j, none⟩ = some (.complex .f64 ((fun j => if j = 0 then x else x') j) ((fun j => if j = 0 then y else y') j)) := by
    intro j hj
    rcases (show j = 0 ∨ j = 1 by omega) with rfl | rfl
    · exact h
    · exact h'
  cases e : (mayB x && mayB y)
  · exact is_no 2 0 (by decide) (by decide) _ _ g c (fun j hj => absurd hj (by omega)) e w hc
  · have h2 := Bool.and_eq_true_iff.1 e
    rw [Bool.true_and]
    cases e' : (mayB x' && mayB y')
    · exact is_no 2 1 (by decide) (by decide) _ _ g c (fun j hj => by obtain rfl : j = 0 := by omega
                                                                      exact h2) e' w hc
    · have h3 := Bool.and_eq_true_iff.1 e'
      refine is_yes 2 (by decide) _ _ g c (fun j hj => ?_) w hc
      rcases (show j = 0 ∨ j = 1 by omega) with rfl | rfl
      · exact h2
      · exact h3

theorem word_no (x y : Nat) (h : (mayB x && mayB y) = false) (w : World) :
    Calls Try.prog 23 #[.complex .f64 x y] w fun e w' => e = .returned (.tuple #[.int .u32 0, .bool false]) ∧ Upd Non w w' := by
  have M := Lib.hid h
  clear h
  go_enter Try.func23, Try.ntmps23
  go_wp2_with fail
  refine (is_one x y _ _ _ (rowVals 0 rfl)).mono ?_
  rintro e w1 ⟨rfl, rfl⟩
  rw [M.out]
  go_wp2_with fail
  go_ret2
  exact ⟨rfl, by ((with_reducible repeat' first | exact Upd.refl _ _ | apply Upd.drew | apply Upd.drewN | apply Upd.alloc | refine Upd.setCell ?_ ?_) <;> first | (intro _ _ h; exact h) | (intro _ _ h; exact h.elim) | (intro i h1 h2; exfalso; (try simp only at h2); omega) | (left; rfl) | (right; dsimp only; omega) | (right; omega))⟩

theorem plus_no (x y x' y' : Nat) (h : ((mayB x && mayB y) && (mayB x' && mayB y')) = false) (w : World) :
    Calls Try.prog 26 #[.complex .f64 x y, .complex .f64 x' y'] w fun e w' => e = .returned (.tuple #[.complex .f64 0 0, .bool false]) ∧ Upd Non w w' := by
  have M := Lib.hid h
  clear h
  go_enter Try.func26, Try.ntmps26
  go_wp2_with fail
  refine (is_two x y x' y' _ _ _ (rowVals 0 rfl) (rowVals 1 rfl)).mono ?_
  rintro e w1 ⟨rfl, rfl⟩
  rw [M.out]
  go_wp2_with fail
  go_ret2
  exact ⟨rfl, by ((with_reducible repeat' first | exact Upd.refl _ _ | apply Upd.drew | apply Upd.drewN | apply Upd.alloc | refine Upd.setCell ?_ ?_) <;> first | (intro _ _ h; exact h) | (intro _ _ h; exact h.elim) | (intro i h1 h2; exfalso; (try simp only at h2); omega) | (left; rfl) | (right; dsimp only; omega) | (right; omega))⟩
theorem times_no (x y x' y' : Nat) (h : ((mayB x && mayB y) && (mayB x' && mayB y')) = false) (w : World) :
    Calls Try.prog 27 #[.complex .f64 x y, .complex .f64 x' y'] w fun e w' => e = .returned (.tuple #[.complex .f64 0 0, .bool false]) ∧ Upd Non w w' := by
  have M := Lib.hid h
  clear h
  go_enter Try.func27, Try.ntmps27
  go_wp2_with fail
  refine (is_two x y x' y' _ _ _ (rowVals 0 rfl) (rowVals 1 rfl)).mono ?_
  rintro e w1 ⟨rfl, rfl⟩
  rw [M.out]
  go_wp2_with fail
  go_ret2
  exact ⟨rfl, by ((with_reducible repeat' first | exact Upd.refl _ _ | apply Upd.drew | apply Upd.drewN | apply Upd.alloc | refine Upd.setCell ?_ ?_) <;> first | (intro _ _ h; exact h) | (intro _ _ h; exact h.elim) | (intro i h1 h2; exfalso; (try simp only at h2); omega) | (left; rfl) | (right; dsimp only; omega) | (right; omega))⟩
theorem turn_no (x y : Nat) (k : Int) (h : (mayB x && mayB y) = false) (w : World) :
    Calls Try.prog 28 #[.complex .f64 x y, .int .u32 k] w fun e w' => e = .returned (.tuple #[.complex .f64 0 0, .bool false]) ∧ Upd Non w w' := by
  have M := Lib.hid h
  clear h
  go_enter Try.func28, Try.ntmps28
  go_wp2_with fail
  refine (is_one x y _ _ _ (rowVals 0 rfl)).mono ?_
  rintro e w1 ⟨rfl, rfl⟩
  rw [M.out]
  go_wp2_with fail
  go_ret2
  exact ⟨rfl, by ((with_reducible repeat' first | exact Upd.refl _ _ | apply Upd.drew | apply Upd.drewN | apply Upd.alloc | refine Upd.setCell ?_ ?_) <;> first | (intro _ _ h; exact h) | (intro _ _ h; exact h.elim) | (intro i h1 h2; exfalso; (try simp only at h2); omega) | (left; rfl) | (right; dsimp only; omega) | (right; omega))⟩

/-- A word's point: its parts. -/
def X (v : Int) : Nat := fl (w16 v)
def Y (v : Int) : Nat := fl (w16 (hiOf v))
theorem repX (v : Int) : Rep (X v) (w16 v) := fl_range (w16_range v)
theorem repY (v : Int) : Rep (Y v) (w16 (hiOf v)) := fl_range (w16_range _)
theorem small (v : Int) : (w16 v).natAbs ≤ 65536 := by have := w16_range v; omega
theorem prodS (v u : Int) : (w16 v * w16 u).natAbs ≤ 1073741824 := by have := prod_small (w16_range v) (w16_range u); omega
theorem may_one (v : Int) : (mayB (X v) && mayB (Y v)) = true := by unfold X Y; rw [may_fl (w16_range _), may_fl (w16_range _)]; rfl
theorem may_two (v u : Int) : ((mayB (X v) && mayB (Y v)) && (mayB (X u) && mayB (Y u))) = true := by rw [may_one, may_one]; rfl
theorem lo_word (a b : Int) : w16 (wordOf a b) = w16 a := by rw [w16_eq, w16_eq]; unfold wordOf; omega
theorem hi_word (a b : Int) : w16 (hiOf (wordOf a b)) = w16 b := by rw [w16_eq, w16_eq]; unfold hiOf wordOf; omega
theorem word_of (v : Int) (h0 : 0 ≤ v) (h1 : v ≤ 4294967295) : wordOf (w16 v) (w16 (hiOf v)) = v := by rw [w16_eq, w16_eq]; unfold hiOf wordOf; omega
theorem X_plus (v u : Int) : X (plusW v u) = fl (w16 (w16 v + w16 u)) := by unfold X plusW; rw [lo_word]
theorem Y_plus (v u : Int) : Y (plusW v u) = fl (w16 (w16 (hiOf v) + w16 (hiOf u))) := by unfold Y plusW; rw [hi_word]
theorem X_times (v u : Int) : X (timesW v u) = fl (w16 (w16 v * w16 u - w16 (hiOf v) * w16 (hiOf u))) := by unfold X timesW; rw [lo_word]
theorem Y_times (v u : Int) : Y (timesW v u) = fl (w16 (w16 v * w16 (hiOf u) + w16 (hiOf v) * w16 u)) := by unfold Y timesW; rw [hi_word]

theorem word_spec (v : Int) (h0 : 0 ≤ v) (h1 : v ≤ 4294967295) (w : World) :
    Calls Try.prog 23 #[.complex .f64 (X v) (Y v)] w fun e w' => e = .returned (.tuple #[.int .u32 v, .bool true]) ∧ Upd Non w w' := by
  have h := word_yes (X v) (Y v) _ _ (repX v) (repY v) (w16_range v) (w16_range _) w
  rwa [word_of v h0 h1] at h

-- Sum and product of points.
set_option maxHeartbeats 1000000 in
theorem plus_spec (v u : Int) (w : World) :
    Calls Try.prog 26 #[.complex .f64 (X v) (Y v), .complex .f64 (X u) (Y u)] w fun e w' => e = .returned (.tuple #[.complex .f64 (X (plusW v u)) (Y (plusW v u)), .bool true]) ∧ Upd Non w w' := by
  have M := Lib.hid (may_two v u)
  obtain ⟨e, f, q1, r1, r2⟩ := cadd (P := Try.prog) 41 (repX v) (repY v) (repX u) (repY u) (small v) (small (hiOf v)) (small u) (small (hiOf u))
  have R1 := Lib.hid r1
  have R2 := Lib.hid r2
  clear r1 r2
  rw [X_plus, Y_plus]
  generalize X v = x at *
  generalize Y v = y at *
  generalize X u = x' at *
  generalize Y u = y' at *
  go_enter Try.func26, Try.ntmps26
  go_wp2_with fail
  refine (is_two x y x' y' _ _ _ (rowVals 0 rfl) (rowVals 1 rfl)).mono ?_
  rintro e w1 ⟨rfl, rfl⟩
  rw [M.out]
  go_wp2_with fail
  refine (wrapped_spec e f _ _ R1.out R2.out (by have := small v; have := small u; omega) (by have := small (hiOf v); have := small (hiOf u); omega) _).mono ?_
  rintro e w1 ⟨rfl, rfl⟩
  go_wp2_with fail
  go_ret2
  exact ⟨rfl, by ((with_reducible repeat' first | exact Upd.refl _ _ | apply Upd.drew | apply Upd.drewN | apply Upd.alloc | refine Upd.setCell ?_ ?_) <;> first | (intro _ _ h; exact h) | (intro _ _ h; exact h.elim) | (intro i h1 h2; exfalso; (try simp only at h2); omega) | (left; rfl) | (right; dsimp only; omega) | (right; omega))⟩
set_option maxHeartbeats 1000000 in
theorem times_spec (v u : Int) (w : World) :
    Calls Try.prog 27 #[.complex .f64 (X v) (Y v), .complex .f64 (X u) (Y u)] w fun e w' => e = .returned (.tuple #[.complex .f64 (X (timesW v u)) (Y (timesW v u)), .bool true]) ∧ Upd Non w w' := by
  have M := Lib.hid (may_two v u)
  obtain ⟨e, f, q1, r1, r2⟩ := cmul (P := Try.prog) 41 (repX v) (repY v) (repX u) (repY u) (small v) (small (hiOf v)) (small u) (small (hiOf u))
  have R1 := Lib.hid r1
  have R2 := Lib.hid r2
  clear r1 r2
  rw [X_times, Y_times]
  generalize X v = x at *
  generalize Y v = y at *
  generalize X u = x' at *
  generalize Y u = y' at *
  go_enter Try.func27, Try.ntmps27
  go_wp2_with fail
  refine (is_two x y x' y' _ _ _ (rowVals 0 rfl) (rowVals 1 rfl)).mono ?_
  rintro e w1 ⟨rfl, rfl⟩
  rw [M.out]
  go_wp2_with fail
  refine (wrapped_spec e f _ _ R1.out R2.out (by have := prodS v u; have := prodS (hiOf v) (hiOf u); omega) (by have := prodS v (hiOf u); have := prodS (hiOf v) u; omega) _).mono ?_
  rintro e w1 ⟨rfl, rfl⟩
  go_wp2_with fail
  go_ret2
  exact ⟨rfl, by ((with_reducible repeat' first | exact Upd.refl _ _ | apply Upd.drew | apply Upd.drewN | apply Upd.alloc | refine Upd.setCell ?_ ?_) <;> first | (intro _ _ h; exact h) | (intro _ _ h; exact h.elim) | (intro i h1 h2; exfalso; (try simp only at h2); omega) | (left; rfl) | (right; dsimp only; omega) | (right; omega))⟩
theorem Xi : X 65536 = 0 := by decide
theorem Yi : Y 65536 = 4607182418800017408 := by decide
set_option maxHeartbeats 1000000 in
theorem turn_spec (v k : Int) (h0 : 0 ≤ k) (h1 : k ≤ 4294967295) (w : World) :
    Calls Try.prog 28 #[.complex .f64 (X v) (Y v), .int .u32 k] w fun e w' => e = .returned (.tuple #[.complex .f64 (X (turnW (k % 4).toNat v)) (Y (turnW (k % 4).toNat v)), .bool true]) ∧ Upd Non w w' := by
  have M := Lib.hid (may_one v)
  have e1 := and_three h0 h1
  have hn : (k % 4).toNat < 4 := by omega
  generalize hN : (k % 4).toNat = n at *
  have HN := Lib.hid hN
  clear hN h0 h1
  have hcm : ∀ j, ∃ e f, (∀ w, (binOp .mul 41 (.complex .f64 (X (turnW j v)) (Y (turnW j v))) (.complex .f64 0 4607182418800017408)).run Try.prog w = .ok (.complex .f64 e f) w) ∧ Rep e (w16 (turnW j v) * w16 65536 - w16 (hiOf (turnW j v)) * w16 (hiOf 65536)) ∧ Rep f (w16 (turnW j v) * w16 (hiOf 65536) + w16 (hiOf (turnW j v)) * w16 65536) := by
    intro j
    have h := cmul (P := Try.prog) 41 (repX (turnW j v)) (repY (turnW j v)) (repX 65536) (repY 65536) (small _) (small _) (small _) (small _)
    rwa [Xi, Yi] at h
  have HCM := Lib.hid hcm
  clear hcm
  go_enter Try.func28, Try.ntmps28
  go_wp2_with fail
  refine (is_one (X v) (Y v) _ _ _ (rowVals 0 rfl)).mono ?_
  rintro e w1 ⟨rfl, rfl⟩
  rw [M.out]
  go_wp2_with fail
  go_loop [0, 12] (fun z i => ∃ j : Nat, j ≤ n ∧ z = .complex .f64 (X (turnW j v)) (Y (turnW j v)) ∧ i = .int .u32 j) (fun _ i => n - (intOf i).toNat)
  case atStart => exact ⟨0, by omega, rfl, rfl⟩
  case round =>
    obtain ⟨j, hj, rfl, rfl⟩ := hrel
    by_cases hlt : j < n
    · obtain ⟨e, f, q1, r1, r2⟩ := HCM.out j
      have R1 := Lib.hid r1
      have R2 := Lib.hid r2
      clear r1 r2
      go_wp2_with fail
      refine (wrapped_spec e f _ _ R1.out R2.out (by have := prodS (turnW j v) 65536; have := prodS (hiOf (turnW j v)) (hiOf 65536); omega) (by have := prodS (turnW j v) (hiOf 65536); have := prodS (hiOf (turnW j v)) 65536; omega) _).mono ?_
      rintro e w1 ⟨rfl, rfl⟩
      rw [← X_times, ← Y_times]
      go_wp2_with fail
      go_round
      case rel => exact ⟨j + 1, by omega, rfl, by go_num⟩
      case measure => simp [intOf]; omega
    · have : j = n := by omega
      subst this
      go_wp2_with fail
      refine (wrapped_spec _ _ _ _ (repX (turnW j v)) (repY (turnW j v)) (by have := small (turnW j v); omega) (by have := small (hiOf (turnW j v)); omega) _).mono ?_
      rintro e w1 ⟨rfl, rfl⟩
      rw [w16_id (w16_range _).1 (w16_range _).2, w16_id (w16_range _).1 (w16_range _).2]
      go_wp2_with fail
      go_ret2
      exact ⟨rfl, by ((with_reducible repeat' first | exact Upd.refl _ _ | apply Upd.drew | apply Upd.drewN | apply Upd.alloc | refine Upd.setCell ?_ ?_) <;> first | (intro _ _ h; exact h) | (intro _ _ h; exact h.elim) | (intro i h1 h2; exfalso; (try simp only at h2); omega) | (left; rfl) | (right; dsimp only; omega) | (right; omega))⟩
end Go.Proofs.Ytnmbkhofikbcjaa
