/- What the ports laws' rows share: a row of deeds, opened. No condition. -/
import Derived.Test.YtmblplhehbdocaaRow
import Derived.Test.YtmblplhehbdocaaProg
import Derived.Deep.Slices
import Derived.Deep.Fields
import Derived.ChangeSame
import Derived.Lib.SmallJoins
namespace Go.Proofs.Ytmblplhehbdocaa
open Go.ChangeShapes Go.WideShapes Go.ChangeAt Go.RowKit Go.Deep Go.Joins

theorem Try.own : ownKnob Try.prog.godebug = none := by kernel_rfl
theorem Try.laidOut : laidOutB Try.prog = true := by kernel_rfl
theorem Try.cells44 : Try.prog.cellsOf 44 = 2 := by kernel_rfl

/-- A struct of two cells, opened. -/
theorem trod_pair {H : Type} {enc : TypeId × Value → H} {P : Program} {w : World} {base : Nat} {spare : Nat → Bool} {held : Bool} {fuel : Nat} {t : TypeId} {f0 f1 : Field} {c0 c1 : Value} {x : DataW H × List MemPlace}
    (he : P.underlying t = some (.struct #[f0, f1])) (hone : oneCellFields P #[f0, f1] = true) (h : DataW.trod enc P w base spare held fuel t [c0, c1] = some x) :
    ∃ n y0 y1, DataW.trod enc P w base spare held n f0.type [c0] = some y0 ∧ DataW.trod enc P w base spare held n f1.type [c1] = some y1 := by
  obtain ⟨ys, n, _, _, _, hyl, hf⟩ := DataW.trod_struct he h
  obtain ⟨o0, k0⟩ := hone_of hone 0 f0 rfl
  obtain ⟨o1, k1⟩ := hone_of hone 1 f1 rfl
  obtain ⟨y0, z0⟩ : ∃ y, ys[0]? = some y := ⟨_, List.getElem?_eq_getElem (by rw [hyl]; simp)⟩
  obtain ⟨y1, z1⟩ : ∃ y, ys[1]? = some y := ⟨_, List.getElem?_eq_getElem (by rw [hyl]; simp)⟩
  have g0 := hf 0 f0 rfl
  have g1 := hf 1 f1 rfl
  rw [o0, k0, z0] at g0
  rw [o1, k1, z1] at g1
  exact ⟨n, y0, y1, g0, g1⟩

/-- A deed, opened to its cells. -/
theorem open_deed {H : Type} {enc : TypeId × Value → H} {w : World} {base : Nat} {spare : Nat → Bool} {held : Bool} {fuel : Nat} {cs : List Value} {x : DataW H × List MemPlace} (hl : cs.length = 2) (h : DataW.trod enc Try.prog w base spare held fuel 44 cs = some x) :
    ∃ q : Int × Int, cs = [.int .i64 q.1, .int .i64 q.2] := by
  match cs, hl with
  | [c0, c1], _ =>
    obtain ⟨n, y0, y1, g0, g1⟩ := trod_pair Try.underlying44 (by kernel_rfl) h
    obtain ⟨r, hr, _, _⟩ := DataW.trod_int Try.underlying3 g0
    obtain ⟨a, ha, _, _⟩ := DataW.trod_int Try.underlying3 g1
    simp at hr ha
    subst hr ha
    exact ⟨(r, a), rfl⟩

theorem open_deeds {H : Type} {enc : TypeId × Value → H} {w : World} {base : Nat} {spare : Nat → Bool} {held : Bool} {fuel : Nat} {cs : List Value} {x : DataW H × List MemPlace} (h : DataW.trod enc Try.prog w base spare held fuel 39 cs = some x) :
    ∃ (A : Option Addr) (n c : Nat) (R O : Nat → Int), cs = [.slice A n c] ∧ (0 < n → ∃ b o, A = some ⟨b, o, none⟩ ∧ ∀ j, j < n → w.cell? ⟨b, o + j * 2, none⟩ = some (.int .i64 (R j)) ∧ w.cell? ⟨b, o + j * 2 + 1, none⟩ = some (.int .i64 (O j))) := by
  rcases open_slice Try.underlying39 h with ⟨rfl, _⟩ | ⟨a, len, cap, m, n, D, Pl, rfl, hb, hl, hm, hmm, hx, hi⟩
  · exact ⟨none, 0, 0, fun _ => 0, fun _ => 0, rfl, fun hn => by omega⟩
  · have key : ∀ i, i < len → ∃ q : Int × Int, w.cell? (a.add (i * 2)) = some (.int .i64 q.1) ∧ w.cell? (a.add (i * 2 + 1)) = some (.int .i64 q.2) := by
      intro i hil
      obtain ⟨cs', hc, ht'⟩ := hi i (by rw [hmm]; split <;> omega)
      rw [Try.cells44] at hc
      obtain ⟨_, hcl, hat⟩ := World.cells?_some hc
      obtain ⟨q, rfl⟩ := open_deed hcl ht'
      refine ⟨q, ?_, ?_⟩
      · have := hat 0 (by omega)
        rw [Go.Deep.add_add] at this
        exact this
      · rw [← Go.Deep.add_add]; exact hat 1 (by omega)
    obtain ⟨Q, hQ⟩ := choose_lt (α := Int × Int) key
    refine ⟨some a, len, cap, fun i => (Q i).1, fun i => (Q i).2, rfl, fun hn => ?_⟩
    obtain ⟨b, o, rfl⟩ := addr_form (by simpa using (hQ 0 hn).1)
    refine ⟨b, o, rfl, fun j hj => ?_⟩
    have := hQ j hj
    rw [addr_add, addr_add] at this
    exact this
end Go.Proofs.Ytmblplhehbdocaa
