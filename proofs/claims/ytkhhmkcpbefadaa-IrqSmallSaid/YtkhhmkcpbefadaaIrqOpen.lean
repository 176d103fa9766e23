/- What the boards laws' rows share: rows of levels, of lines, opened. No condition. -/
import Derived.Test.YtkhhmkcpbefadaaRow
import Derived.Test.YtkhhmkcpbefadaaProg
import Derived.Deep.Slices
import Derived.Deep.Fields
import Derived.Deep.Grids
import Derived.ChangeSame
import Derived.Lib.SmallJoins
namespace Go.Proofs.Ytkhhmkcpbefadaa
open Go.ChangeShapes Go.WideShapes Go.ChangeAt Go.RowKit Go.Deep Go.Joins

theorem Try.own : ownKnob Try.prog.godebug = none := by kernel_rfl
theorem Try.laidOut : laidOutB Try.prog = true := by kernel_rfl
theorem Try.cells3 : Try.prog.cellsOf 3 = 1 := by kernel_rfl
theorem Try.cells4 : Try.prog.cellsOf 4 = 1 := by kernel_rfl
theorem open_byte {n : Int} (h : (Lit.int .u8 n).wf = true) : ∃ m : Nat, n = m ∧ m < 256 := by
  have e1 : IntKind.u8.min = 0 := by decide
  have e2 : IntKind.u8.max = 255 := by decide
  have h := Bool.and_eq_true_iff.1 h
  have h1 := of_decide_eq_true h.1
  have h2 := of_decide_eq_true h.2
  exact ⟨n.toNat, by omega, by omega⟩
theorem open_levels {H : Type} {enc : TypeId × Value → H} {W : World} {A : Option Addr} {n c : Nat} {d : DataW H} {ps : List MemPlace} (h : DataW.Trod enc Try.prog W 0 (fun _ => true) true 22 (.slice A n c) d ps) :
    n ≤ 9223372036854775807 ∧ ∃ V : Nat → Bool, 0 < n → ∃ b o, A = some ⟨b, o, none⟩ ∧ ∀ j, j < n → W.cell? ⟨b, o + j, none⟩ = some (.bool (V j)) := by
  obtain ⟨fuel, hf⟩ := h
  rcases open_bools Try.underlying22 Try.underlying4 Try.cells4 hf with ⟨hcs, _⟩ | ⟨a, len, cap, B, hcs, _, hl, hm, _, hc⟩
  · simp [Value.cells] at hcs
    exact ⟨by omega, fun _ => false, fun hn => by omega⟩
  · simp [Value.cells] at hcs
    obtain ⟨rfl, rfl, rfl⟩ := hcs
    refine ⟨by simp only [maxLen] at hm; omega, B, fun hn => ?_⟩
    obtain ⟨b, o, rfl⟩ := addr_form (hc 0 (by omega))
    exact ⟨b, o, rfl, fun j hj => by rw [← addr_add]; exact hc j (by omega)⟩
theorem open_lines {H : Type} {enc : TypeId × Value → H} {W : World} {A : Option Addr} {n c : Nat} {d : DataW H} {ps : List MemPlace} (h : DataW.Trod enc Try.prog W 0 (fun _ => true) true 40 (.slice A n c) d ps) :
    n ≤ 9223372036854775807 ∧ ∃ V : Nat → Int, 0 < n → ∃ b o, A = some ⟨b, o, none⟩ ∧ ∀ j, j < n → W.cell? ⟨b, o + j, none⟩ = some (.int .i64 (V j)) := by
  obtain ⟨fuel, hf⟩ := h
  rcases open_ints Try.underlying40 Try.underlying3 Try.cells3 hf with ⟨hcs, _⟩ | ⟨a, len, cap, zs, hcs, _, hl, hm, hz, _, hc, _⟩
  · simp [Value.cells] at hcs
    exact ⟨by omega, fun _ => 0, fun hn => by omega⟩
  · simp [Value.cells] at hcs
    obtain ⟨rfl, rfl, rfl⟩ := hcs
    have hz' : zs.length = c := by simpa using hz
    refine ⟨by simp only [maxLen] at hm; omega, fun j => zs.getD j 0, fun hn => ?_⟩
    obtain ⟨b, o, rfl⟩ := addr_form (hc 0 (by omega))
    exact ⟨b, o, rfl, fun j hj => by rw [← addr_add]; exact hc j (by omega)⟩
end Go.Proofs.Ytkhhmkcpbefadaa
