/- What the mailbox's and the uart's laws' rows share: rows of words, of bytes, of truths, opened. No condition. -/
import Derived.Test.YtlpfjjhjfmcfmaaRow
import Derived.Test.YtlpfjjhjfmcfmaaProg
import Derived.Deep.Slices
import Derived.Deep.Fields
import Derived.Deep.Grids
import Derived.ChangeSame
import Derived.Lib.SmallJoins
namespace Go.Proofs.Ytlpfjjhjfmcfmaa
open Go.ChangeShapes Go.WideShapes Go.ChangeAt Go.RowKit Go.Deep Go.Joins

theorem Try.own : ownKnob Try.prog.godebug = none := by kernel_rfl
theorem Try.laidOut : laidOutB Try.prog = true := by kernel_rfl
theorem Try.cells3 : Try.prog.cellsOf 3 = 1 := by kernel_rfl
theorem Try.cells4 : Try.prog.cellsOf 4 = 1 := by kernel_rfl
theorem Try.cells5 : Try.prog.cellsOf 5 = 1 := by kernel_rfl
theorem Try.cells28 : Try.prog.cellsOf 28 = 1 := by kernel_rfl
theorem u32_ok {n : Int} (h : (Lit.int .u32 n).wf = true) : 0 ≤ n ∧ n < 4294967296 := by
  have e1 : IntKind.u32.min = 0 := by decide
  have e2 : IntKind.u32.max = 4294967295 := by decide
  have h := Bool.and_eq_true_iff.1 h
  have h1 := of_decide_eq_true h.1
  have h2 := of_decide_eq_true h.2
  omega
theorem u8_ok {n : Int} (h : (Lit.int .u8 n).wf = true) : 0 ≤ n ∧ n < 256 := by
  have e1 : IntKind.u8.min = 0 := by decide
  have e2 : IntKind.u8.max = 255 := by decide
  have h := Bool.and_eq_true_iff.1 h
  have h1 := of_decide_eq_true h.1
  have h2 := of_decide_eq_true h.2
  omega
theorem open_truths {H : Type} {enc : TypeId × Value → H} {W : World} {A : Option Addr} {n c : Nat} {d : DataW H} {ps : List MemPlace} (h : DataW.Trod enc Try.prog W 0 (fun _ => true) true 23 (.slice A n c) d ps) :
    n ≤ 9223372036854775807 ∧ ∃ V : Nat → Bool, 0 < n → ∃ b o, A = some ⟨b, o, none⟩ ∧ ∀ j, j < n → W.cell? ⟨b, o + j, none⟩ = some (.bool (V j)) := by
  obtain ⟨fuel, hf⟩ := h
  rcases open_bools Try.underlying23 Try.underlying4 Try.cells4 hf with ⟨hcs, _⟩ | ⟨a, len, cap, B, hcs, _, hl, hm, _, hc⟩
  · simp [Value.cells] at hcs
    exact ⟨by omega, fun _ => false, fun hn => by omega⟩
  · simp [Value.cells] at hcs
    obtain ⟨rfl, rfl, rfl⟩ := hcs
    refine ⟨by simp only [maxLen] at hm; omega, B, fun hn => ?_⟩
    obtain ⟨b, o, rfl⟩ := addr_form (hc 0 (by omega))
    exact ⟨b, o, rfl, fun j hj => by rw [← addr_add]; exact hc j (by omega)⟩
theorem open_wds {H : Type} {enc : TypeId × Value → H} {W : World} {A : Option Addr} {n c : Nat} {d : DataW H} {ps : List MemPlace} (h : DataW.Trod enc Try.prog W 0 (fun _ => true) true 35 (.slice A n c) d ps) :
    ∃ V : Nat → Int, (0 < n → ∃ b o, A = some ⟨b, o, none⟩ ∧ ∀ j, j < n → W.cell? ⟨b, o + j, none⟩ = some (.int .u32 (V j))) ∧ ∀ j, j < n → 0 ≤ V j ∧ V j < 4294967296 := by
  obtain ⟨fuel, hf⟩ := h
  rcases open_ints Try.underlying35 Try.underlying28 Try.cells28 hf with ⟨hcs, _⟩ | ⟨a, len, cap, zs, hcs, _, hl, hm, hz, _, hc, hw⟩
  · simp [Value.cells] at hcs
    exact ⟨fun _ => 0, (fun hn => by omega), fun j hj => by omega⟩
  · simp [Value.cells] at hcs
    obtain ⟨rfl, rfl, rfl⟩ := hcs
    have hz' : zs.length = c := by simpa using hz
    refine ⟨fun j => zs.getD j 0, fun hn => ?_, fun j hj => ?_⟩
    · obtain ⟨b, o, rfl⟩ := addr_form (hc 0 (by omega))
      exact ⟨b, o, rfl, fun j hj => by rw [← addr_add]; exact hc j (by omega)⟩
    · have hj' : j < zs.length := by omega
      show 0 ≤ zs.getD j 0 ∧ zs.getD j 0 < 4294967296
      rw [List.getD_eq_getElem?_getD, List.getElem?_eq_getElem hj']
      exact u32_ok (hw _ (List.getElem_mem hj'))
theorem open_bts {H : Type} {enc : TypeId × Value → H} {W : World} {A : Option Addr} {n c : Nat} {d : DataW H} {ps : List MemPlace} (h : DataW.Trod enc Try.prog W 0 (fun _ => true) true 22 (.slice A n c) d ps) :
    ∃ V : Nat → Int, (0 < n → ∃ b o, A = some ⟨b, o, none⟩ ∧ ∀ j, j < n → W.cell? ⟨b, o + j, none⟩ = some (.int .u8 (V j))) ∧ ∀ j, j < n → 0 ≤ V j ∧ V j < 256 := by
  obtain ⟨fuel, hf⟩ := h
  rcases open_ints Try.underlying22 Try.underlying5 Try.cells5 hf with ⟨hcs, _⟩ | ⟨a, len, cap, zs, hcs, _, hl, hm, hz, _, hc, hw⟩
  · simp [Value.cells] at hcs
    exact ⟨fun _ => 0, (fun hn => by omega), fun j hj => by omega⟩
  · simp [Value.cells] at hcs
    obtain ⟨rfl, rfl, rfl⟩ := hcs
    have hz' : zs.length = c := by simpa using hz
    refine ⟨fun j => zs.getD j 0, fun hn => ?_, fun j hj => ?_⟩
    · obtain ⟨b, o, rfl⟩ := addr_form (hc 0 (by omega))
      exact ⟨b, o, rfl, fun j hj => by rw [← addr_add]; exact hc j (by omega)⟩
    · have hj' : j < zs.length := by omega
      show 0 ≤ zs.getD j 0 ∧ zs.getD j 0 < 256
      rw [List.getD_eq_getElem?_getD, List.getElem?_eq_getElem hj']
      exact u8_ok (hw _ (List.getElem_mem hj'))
end Go.Proofs.Ytlpfjjhjfmcfmaa
