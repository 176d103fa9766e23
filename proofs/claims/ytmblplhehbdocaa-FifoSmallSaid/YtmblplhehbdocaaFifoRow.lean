/- What the fifo laws' rows share: a row of numbers, opened. No condition. -/
import Derived.Test.YtmblplhehbdocaaRow
import Derived.Test.YtmblplhehbdocaaProg
import Derived.Deep.Slices
import Derived.Deep.Fields
import Derived.ChangeSame
import Derived.Lib.SmallJoins
namespace Go.Proofs.Ytmblplhehbdocaa
open Go.ChangeShapes Go.WideShapes Go.ChangeAt Go.RowKit Go.Deep Go.Joins

theorem Try.own : ownKnob Try.prog.godebug = none := by kernel_rfl
theorem Try.laidOut : laidOutB Try.prog = true := by kernel_rfl
theorem Try.cells3 : Try.prog.cellsOf 3 = 1 := by kernel_rfl
theorem i64_le {n : Int} (h : (Lit.int .i64 n).wf = true) : n ≤ 9223372036854775807 := by
  have e2 : IntKind.i64.max = 9223372036854775807 := by decide
  have h := Bool.and_eq_true_iff.1 h
  have h2 := of_decide_eq_true h.2
  omega
theorem open_row {H : Type} {enc : TypeId × Value → H} {W : World} {A : Option Addr} {n c : Nat} {d : DataW H} {ps : List MemPlace} (h : DataW.Trod enc Try.prog W 0 (fun _ => true) true 31 (.slice A n c) d ps) :
    ∃ V : Nat → Int, 0 < n → ∃ b o, A = some ⟨b, o, none⟩ ∧ ∀ j, j < n → W.cell? ⟨b, o + j, none⟩ = some (.int .i64 (V j)) := by
  obtain ⟨fuel, hf⟩ := h
  rcases open_ints Try.underlying31 Try.underlying3 Try.cells3 hf with ⟨hcs, _⟩ | ⟨a, len, cap, zs, hcs, _, hl, hm, hz, _, hc, _⟩
  · simp [Value.cells] at hcs
    exact ⟨fun _ => 0, fun hn => by omega⟩
  · simp [Value.cells] at hcs
    obtain ⟨rfl, rfl, rfl⟩ := hcs
    have hz' : zs.length = c := by simpa using hz
    refine ⟨fun j => zs.getD j 0, fun hn => ?_⟩
    obtain ⟨b, o, rfl⟩ := addr_form (hc 0 (by omega))
    exact ⟨b, o, rfl, fun j hj => by rw [← addr_add]; exact hc j (by omega)⟩
end Go.Proofs.Ytmblplhehbdocaa
