/- FifoDoes: for every input the law returns true, and its arguments read as they did. No condition. -/
import Derived.Test.YtmblplhehbdocaaFifoDoesLaw
import Derived.Test.YtmblplhehbdocaaFifoRow
import Derived.Test.YtmblplhehbdocaaFifoDeeds
namespace Go.Proofs.Ytmblplhehbdocaa
open Go.ChangeShapes Go.WideShapes Go.ChangeAt Go.RowKit Go.Deep Go.Joins

set_option maxRecDepth 100000 in
theorem fifoDoes_lifted (os : Os) (started : os.Started) (H : Type) (enc : TypeId × Value → H) :
    ReturnsInHanded {} Try.checked os 11 .any (Rows.fifoDoesSpec.pre6 enc Try.prog Try.f11 Rows.fifoDoesRow.domain false) (Rows.fifoDoesSpec.post enc Try.prog Try.f11 false true false false) := by
  refine returnsInHanded_of_change (C := Try.checked) Try.own started (by kernel_rfl) Try.func11
    (ChangeSpec.witness6 (enc := enc) (C := Try.checked) false ⟨#[], #[.int .i64 0, .slice none 0 0], []⟩ 8 (by kernel_rfl) (by kernel_rfl) (by kernel_rfl) (by kernel_rfl)) ?_
  intro W base args ds gs before hval0 hW hcnd _
  have hval : ∀ (j : Nat) t v, Try.f11.params[j]? = some t → args[j]? = some v → Value.okWide Try.prog W .any base t v := hval0
  have hW' := hW
  obtain ⟨p, q, hA0, hV, rfl, hfz, hnd⟩ := hW
  have hA : DataW.TrodAll enc Try.prog W 0 (fun _ => true) true Try.f11.params.toList args.toList ds p := hA0
  rw [Try.params11] at hA hval
  obtain ⟨v0, v1, d0, d1, p0, p1, rfl, rfl, rfl, h0, h1⟩ := trodAll_two hA
  obtain ⟨rfl, rfl⟩ := trodVars_none hV
  obtain ⟨v, rfl, e0, r0, w0⟩ := open_int Try.underlying3 (hval 0 3 v0 rfl rfl) h0
  obtain ⟨A, n, cc, rfl⟩ := okWide_slice Try.underlying88 (hval 1 88 v1 rfl rfl)
  clear hA0 hval0
  obtain ⟨H', X, hd⟩ : ∃ H' X : Nat → Int, 0 < n → ∃ b o, A = some ⟨b, o, none⟩ ∧ ∀ j, j < n → W.cell? ⟨b, o + j * 2, none⟩ = some (.int .i64 (H' j)) ∧ W.cell? ⟨b, o + j * 2 + 1, none⟩ = some (.int .i64 (X j)) := by
    obtain ⟨fuel, hf⟩ := h1
    obtain ⟨A', n', c', R, O, hcs, hh⟩ := open_deeds hf
    simp [Value.cells] at hcs
    obtain ⟨rfl, rfl, rfl⟩ := hcs
    exact ⟨R, O, hh⟩
  refine (doesF_law v (i64_le w0) A n cc H' X W hd).mono fun e W' ⟨he, hU⟩ => ?_
  subst he
  exact ⟨_, rfl, law_post Try.laidOut rfl hW' rfl rfl Try.underlying4 (by rw [Try.params11]; decide +kernel) hU⟩

theorem FifoDoes_holds : Rows.FifoDoesSaid :=
  OpenClaim.holds_of_wide 11 Try.f11 rfl rfl rfl rfl rfl rfl rfl ⟨rfl, rfl, rfl, rfl, rfl⟩ rfl rfl rfl rfl rfl (by kernel_rfl) Try.func11 (by kernel_rfl)
    (of_decide_eq_true (by kernel_rfl)) (by unfold Func.isWrapper; first | (rw [if_pos (by decide +kernel)]; kernel_rfl) | (rw [if_neg (by decide +kernel)]; exact ⟨rfl, rfl⟩))
    (fun os started H enc _ => fifoDoes_lifted os started H enc)
end Go.Proofs.Ytmblplhehbdocaa
#print axioms Go.Proofs.Ytmblplhehbdocaa.FifoDoes_holds
