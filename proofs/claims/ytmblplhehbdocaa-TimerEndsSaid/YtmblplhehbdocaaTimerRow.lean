/- What the timer laws' rows share: a state by value, opened. No condition. -/
import Derived.Test.YtmblplhehbdocaaRow
import Derived.Test.YtmblplhehbdocaaProg
import Derived.Deep.Slices
import Derived.Deep.Fields
import Derived.ChangeSame
import Derived.Lib.SmallJoins
namespace Go.Proofs.Ytmblplhehbdocaa
open Go.ChangeShapes Go.WideShapes Go.ChangeAt Go.RowKit Go.Deep Go.Joins

theorem Try.own : ownKnob Try.prog.godebug = none := by kernel_rfl
theorem Try.laidOut : laidOutB Try.prog = true := by kernel_rfl
theorem u32_ok {n : Int} (h : (Lit.int .u32 n).wf = true) : 0 ≤ n ∧ n ≤ 4294967295 := by
  have e1 : IntKind.u32.min = 0 := by decide
  have e2 : IntKind.u32.max = 4294967295 := by decide
  have h := Bool.and_eq_true_iff.1 h
  have h1 := of_decide_eq_true h.1
  have h2 := of_decide_eq_true h.2
  omega

/-- A struct of four cells, opened. -/
theorem trod_four {H : Type} {enc : TypeId × Value → H} {P : Program} {w : World} {base : Nat} {spare : Nat → Bool} {held : Bool} {fuel : Nat} {t : TypeId} {f0 f1 f2 f3 : Field} {c0 c1 c2 c3 : Value} {x : DataW H × List MemPlace}
    (he : P.underlying t = some (.struct #[f0, f1, f2, f3])) (hone : oneCellFields P #[f0, f1, f2, f3] = true) (h : DataW.trod enc P w base spare held fuel t [c0, c1, c2, c3] = some x) :
    ∃ n y0 y1 y2 y3, DataW.trod enc P w base spare held n f0.type [c0] = some y0 ∧ DataW.trod enc P w base spare held n f1.type [c1] = some y1 ∧ DataW.trod enc P w base spare held n f2.type [c2] = some y2 ∧ DataW.trod enc P w base spare held n f3.type [c3] = some y3 := by
  obtain ⟨ys, n, _, _, _, hyl, hf⟩ := DataW.trod_struct he h
  obtain ⟨o0, k0⟩ := hone_of hone 0 f0 rfl
  obtain ⟨o1, k1⟩ := hone_of hone 1 f1 rfl
  obtain ⟨o2, k2⟩ := hone_of hone 2 f2 rfl
  obtain ⟨o3, k3⟩ := hone_of hone 3 f3 rfl
  obtain ⟨y0, z0⟩ : ∃ y, ys[0]? = some y := ⟨_, List.getElem?_eq_getElem (by rw [hyl]; simp)⟩
  obtain ⟨y1, z1⟩ : ∃ y, ys[1]? = some y := ⟨_, List.getElem?_eq_getElem (by rw [hyl]; simp)⟩
  obtain ⟨y2, z2⟩ : ∃ y, ys[2]? = some y := ⟨_, List.getElem?_eq_getElem (by rw [hyl]; simp)⟩
  obtain ⟨y3, z3⟩ : ∃ y, ys[3]? = some y := ⟨_, List.getElem?_eq_getElem (by rw [hyl]; simp)⟩
  have g0 := hf 0 f0 rfl
  have g1 := hf 1 f1 rfl
  have g2 := hf 2 f2 rfl
  have g3 := hf 3 f3 rfl
  rw [o0, k0, z0] at g0
  rw [o1, k1, z1] at g1
  rw [o2, k2, z2] at g2
  rw [o3, k3, z3] at g3
  exact ⟨n, y0, y1, y2, y3, g0, g1, g2, g3⟩

set_option maxRecDepth 100000 in
theorem open_state {H : Type} {enc : TypeId × Value → H} {w : World} {base b0 : Nat} {spare : Nat → Bool} {held : Bool} {r : Reach} {v : Value} {d : DataW H} {p : List MemPlace} (hv : Value.okWide Try.prog w r b0 28 v) (h : DataW.Trod enc Try.prog w base spare held 28 v d p) :
    ∃ c l k h : Int, v = .agg #[.int .u32 c, .int .u32 l, .int .u32 k, .int .u32 h] ∧ (0 ≤ c ∧ c ≤ 4294967295) ∧ (0 ≤ l ∧ l ≤ 4294967295) ∧ (0 ≤ k ∧ k ≤ 4294967295) ∧ (0 ≤ h ∧ h ≤ 4294967295) := by
  obtain ⟨v0, v1, v2, v3, y0, y1, y2, y3, n, rfl, _, _, g0, g1, g2, g3⟩ := open_agg4 Try.underlying28 (by kernel_rfl) (by kernel_rfl) hv h
  obtain ⟨a, ha, _, wa⟩ := DataW.trod_int Try.underlying22 g0
  obtain ⟨b, hb, _, wb⟩ := DataW.trod_int Try.underlying22 g1
  obtain ⟨c, hc, _, wc⟩ := DataW.trod_int Try.underlying22 g2
  obtain ⟨d, hd, _, wd⟩ := DataW.trod_int Try.underlying22 g3
  simp at ha hb hc hd
  subst ha hb hc hd
  exact ⟨a, b, c, d, rfl, u32_ok wa, u32_ok wb, u32_ok wc, u32_ok wd⟩
end Go.Proofs.Ytmblplhehbdocaa
