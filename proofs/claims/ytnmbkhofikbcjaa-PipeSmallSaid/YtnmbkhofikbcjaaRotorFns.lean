/- Contracts of the rotor's functions on points (complex numbers whose parts are shorts). Conditions: as at each lemma. -/
import Derived.Test.YtnmbkhofikbcjaaProg
import Derived.Test.YtnmbkhofikbcjaaRotorFlt
namespace Go.Proofs.Ytnmbkhofikbcjaa
open Go.RowKit Flt

def w16 (n : Int) : Int := IntKind.i16.wrap n
theorem w16_eq (n : Int) : w16 n = (n + 32768) % 65536 - 32768 := by
  simp [w16, IntKind.wrap, IntKind.signed, IntKind.bits]
  omega
theorem w16_range (n : Int) : -32768 ≤ w16 n ∧ w16 n ≤ 32767 := by rw [w16_eq]; omega
theorem w16_id {n : Int} (h1 : -32768 ≤ n) (h2 : n ≤ 32767) : w16 n = n := by rw [w16_eq]; omega

theorem cvIF (n : Int) (w : World) : (convert 104 40 (.int .i16 n)).run Try.prog w = .ok (.float .f64 (fl n)) w := by
  simp [convert, run_underlying Try.underlying104, run_underlying Try.underlying40, Conv.intToFloat, nearest_fl]
theorem cvFI {x : Nat} {n : Int} (h : Rep x n) (hn : n.natAbs ≤ 4611686018427387904) (w : World) : (convert 40 2 (.float .f64 x)).run Try.prog w = .ok (.int .i64 n) w := by
  have hd : (FloatKind.f64.decode x).toInt .zero = some n := toInt_rep h
  have hm : IntKind.i64.min ≤ n ∧ n ≤ IntKind.i64.max := by
    have e1 : IntKind.i64.min = -9223372036854775808 := by decide
    have e2 : IntKind.i64.max = 9223372036854775807 := by decide
    rw [e1, e2]; omega
  have hx : ¬ 9223372036854775807 < n := by omega
  simp [convert, run_underlying Try.underlying40, run_underlying Try.underlying2, Conv.floatToInt, hd, hm, hx]
theorem cvFS {x : Nat} {n : Int} (h : Rep x n) (h1 : -32768 ≤ n) (h2 : n ≤ 32767) (w : World) : (convert 40 104 (.float .f64 x)).run Try.prog w = .ok (.int .i16 n) w := by
  have hd : (FloatKind.f64.decode x).toInt .zero = some n := toInt_rep h
  have hm : IntKind.i16.min ≤ n ∧ n ≤ IntKind.i16.max := by
    have e1 : IntKind.i16.min = -32768 := by decide
    have e2 : IntKind.i16.max = 32767 := by decide
    rw [e1, e2]; omega
  simp [convert, run_underlying Try.underlying40, run_underlying Try.underlying104, Conv.floatToInt, hd, hm]
theorem cvLS (n : Int) (w : World) : (convert 2 104 (.int .i64 n)).run Try.prog w = .ok (.int .i16 (w16 n)) w := by
  simp [convert, run_underlying Try.underlying2, run_underlying Try.underlying104, Conv.intToInt, w16]
theorem rReal (a b : Nat) (w : World) : (Builtin.real_ #[41] 40 #[.complex .f64 a b]).run Try.prog w = .ok (.float .f64 a) w := rfl
theorem rImag (a b : Nat) (w : World) : (Builtin.imag_ #[41] 40 #[.complex .f64 a b]).run Try.prog w = .ok (.float .f64 b) w := rfl
theorem rComplex (a b : Nat) (w : World) : (Builtin.complex_ #[40, 40] 41 #[.float .f64 a, .float .f64 b]).run Try.prog w = .ok (.complex .f64 a b) w := rfl

theorem short_spec (x : Nat) (n : Int) (h : Rep x n) (hn : n.natAbs ≤ 4611686018427387904) (w : World) :
    Calls Try.prog 63 #[.float .f64 x] w fun e w' => e = .returned (.float .f64 (fl (w16 n))) ∧ w = w' := by
  have q1 := fun w => cvFI h hn w
  have q2 := fun w => cvLS n w
  have q3 := fun w => cvIF (w16 n) w
  go_enter Try.func63, Try.ntmps63
  go_wp2
  go_ret
  exact ⟨rfl, rfl⟩

theorem wrapped_spec (x y : Nat) (a b : Int) (h : Rep x a) (g : Rep y b) (ha : a.natAbs ≤ 4611686018427387904) (hb : b.natAbs ≤ 4611686018427387904) (w : World) :
    Calls Try.prog 54 #[.complex .f64 x y] w fun e w' => e = .returned (.complex .f64 (fl (w16 a)) (fl (w16 b))) ∧ w = w' := by
  have q1 := fun w => rReal x y w
  have q2 := fun w => rImag x y w
  have q3 := fun w => rComplex (fl (w16 a)) (fl (w16 b)) w
  have H := Lib.hid h; clear h
  have G := Lib.hid g; clear g
  go_enter Try.func54, Try.ntmps54
  go_wp2_with fail
  refine (short_spec x a H.out ha _).mono ?_
  rintro e w1 ⟨rfl, rfl⟩
  go_wp2_with fail
  refine (short_spec y b G.out hb _).mono ?_
  rintro e w1 ⟨rfl, rfl⟩
  go_wp2
  go_ret
  exact ⟨rfl, rfl⟩
end Go.Proofs.Ytnmbkhofikbcjaa
