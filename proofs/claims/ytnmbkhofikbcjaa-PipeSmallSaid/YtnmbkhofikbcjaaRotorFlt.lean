/- The model's complex numbers at whole parts: run equations for the walk. Condition: the parts are small. -/
import Derived.Test.YtnmbkhofikbcjaaFlt
import Derived.Test.YtnmbkhofikbcjaaBase
namespace Go.Proofs.Ytnmbkhofikbcjaa
open Go.RowKit Flt

theorem nearest_fl (n : Int) : FloatKind.f64.nearest n = fl n := rfl
theorem run_arith {P : Program} (op : BinOp) (x y z : Nat) (h : (match op with | .add => Ieee.double.add x y | .sub => Ieee.double.sub x y | .mul => Ieee.double.mul x y | _ => none) = some z) (w : World) :
    (Op.Complex.arith op .f64 x y).run P w = .ok z w := by
  cases op <;> simp [Op.Complex.arith, Op.floatArith, FloatKind.format] at h ⊢ <;> simp [h]
theorem cmul {P : Program} (t : TypeId) {a b c d : Nat} {A B C D : Int} (ha : Rep a A) (hb : Rep b B) (hc : Rep c C) (hd : Rep d D) (h1 : A.natAbs ≤ 65536) (h2 : B.natAbs ≤ 65536) (h3 : C.natAbs ≤ 65536) (h4 : D.natAbs ≤ 65536) :
    ∃ e f, (∀ w, (binOp .mul t (.complex .f64 a b) (.complex .f64 c d)).run P w = .ok (.complex .f64 e f) w) ∧ Rep e (A * C - B * D) ∧ Rep f (A * D + B * C) := by
  have bd : ∀ X Y : Int, X.natAbs ≤ 65536 → Y.natAbs ≤ 65536 → (X * Y).natAbs ≤ 4294967296 := fun X Y hx hy => by
    rw [Int.natAbs_mul]; exact Nat.le_trans (Nat.mul_le_mul hx hy) (by decide)
  have q1 := bd A C h1 h3
  have q2 := bd B D h2 h4
  have q3 := bd A D h1 h4
  have q4 := bd B C h2 h3
  obtain ⟨ac, e1, r1⟩ := mul_rep ha hc (by omega)
  obtain ⟨bd', e2, r2⟩ := mul_rep hb hd (by omega)
  obtain ⟨ad, e3, r3⟩ := mul_rep ha hd (by omega)
  obtain ⟨bc, e4, r4⟩ := mul_rep hb hc (by omega)
  obtain ⟨e, e5, r5⟩ := sub_rep r1 r2 (by omega)
  obtain ⟨f, e6, r6⟩ := add_rep r3 r4 (by omega)
  refine ⟨e, f, fun w => ?_, r5, r6⟩
  simp [binOp, Op.complexOp, Op.Complex.conv, Op.Complex.product, Op.Complex.mul, Op.Complex.add, Op.Complex.sub, run_arith .mul _ _ _ e1, run_arith .mul _ _ _ e2, run_arith .mul _ _ _ e3, run_arith .mul _ _ _ e4, run_arith .sub _ _ _ e5, run_arith .add _ _ _ e6]
theorem cadd {P : Program} (t : TypeId) {a b c d : Nat} {A B C D : Int} (ha : Rep a A) (hb : Rep b B) (hc : Rep c C) (hd : Rep d D) (h1 : A.natAbs ≤ 65536) (h2 : B.natAbs ≤ 65536) (h3 : C.natAbs ≤ 65536) (h4 : D.natAbs ≤ 65536) :
    ∃ e f, (∀ w, (binOp .add t (.complex .f64 a b) (.complex .f64 c d)).run P w = .ok (.complex .f64 e f) w) ∧ Rep e (A + C) ∧ Rep f (B + D) := by
  obtain ⟨e, e5, r5⟩ := add_rep ha hc (by omega)
  obtain ⟨f, e6, r6⟩ := add_rep hb hd (by omega)
  refine ⟨e, f, fun w => ?_, r5, r6⟩
  simp [binOp, Op.complexOp, run_arith .add _ _ _ e5, run_arith .add _ _ _ e6]
theorem run_cmp {P : Program} (x y : Nat) (w : World) : (Op.Complex.cmp .eql .f64 x y).run P w = .ok (Ieee.double.order x y == some .eq) w := by
  simp [Op.Complex.cmp, Op.floatCmp, FloatKind.format, asBool]
theorem order_eq {x y : Nat} {a b : Int} (hx : Rep x a) (hy : Rep y b) : (Ieee.double.order x y == some .eq) = decide (a = b) := by
  rw [order_rep hx hy]
  by_cases h : a = b
  · subst h; rw [Int.compare_eq_eq.2 rfl]; simp
  · rw [decide_eq_false h]
    have : compare a b ≠ .eq := fun he => h (Int.compare_eq_eq.1 he)
    cases hc : compare a b <;> simp_all
theorem ceq {P : Program} (t : TypeId) {a b c d : Nat} {A B C D : Int} (ha : Rep a A) (hb : Rep b B) (hc : Rep c C) (hd : Rep d D) (w : World) :
    (binOp .eql t (.complex .f64 a b) (.complex .f64 c d)).run P w = .ok (.bool (decide (A = C) && decide (B = D))) w := by
  simp [binOp, Op.complexOp, run_cmp, order_eq ha hc, order_eq hb hd]
theorem cne {P : Program} (t : TypeId) {a b c d : Nat} {A B C D : Int} (ha : Rep a A) (hb : Rep b B) (hc : Rep c C) (hd : Rep d D) (w : World) :
    (binOp .neq t (.complex .f64 a b) (.complex .f64 c d)).run P w = .ok (.bool (!(decide (A = C) && decide (B = D)))) w := by
  simp [binOp, Op.complexOp, run_cmp, order_eq ha hc, order_eq hb hd]
end Go.Proofs.Ytnmbkhofikbcjaa
