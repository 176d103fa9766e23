/- FifoSmall: the law returns true. No condition. -/
import Derived.Test.YtmblplhehbdocaaFifoSmallLaw
import Derived.Test.YtmblplhehbdocaaFifoRow
namespace Go.Proofs.Ytmblplhehbdocaa
open Go.ChangeShapes Go.WideShapes Go.ChangeAt Go.RowKit Go.Deep


set_option maxRecDepth 100000 in
theorem fifoSmall_lifted (os : Os) (started : os.Started) (H : Type) (enc : TypeId × Value → H) :
    ReturnsInHanded {} Try.checked os 12 .any (Rows.fifoSmallSpec.pre6 enc Try.prog Try.f12 Rows.fifoSmallRow.domain false) (Rows.fifoSmallSpec.post enc Try.prog Try.f12 false true false false) := by
  refine returnsInHanded_of_change (C := Try.checked) Try.own started (by kernel_rfl) Try.func12
    (ChangeSpec.witness6 (enc := enc) (C := Try.checked) false ⟨#[], #[], []⟩ 8 (by kernel_rfl) (by kernel_rfl) (by kernel_rfl) (by kernel_rfl)) ?_
  intro W base args ds gs before hval0 hW hcnd _
  have hval : ∀ (j : Nat) t v, Try.f12.params[j]? = some t → args[j]? = some v → Value.okWide Try.prog W .any base t v := hval0
  have hW' := hW
  obtain ⟨p, q, hA0, hV, rfl, hfz, hnd⟩ := hW
  have hA : DataW.TrodAll enc Try.prog W 0 (fun _ => true) true Try.f12.params.toList args.toList ds p := hA0
  rw [Try.params12] at hA hval
  obtain ⟨rfl, rfl, rfl⟩ : args = #[] ∧ ds = [] ∧ p = [] := by
    obtain ⟨h1, h2, h3⟩ := trodAll_nil hA
    exact ⟨by cases args; simp_all, h2, h3⟩
  obtain ⟨rfl, rfl⟩ := trodVars_none hV
  clear hA0 hval0
  refine (smallF W).mono fun e W' ⟨he, hU⟩ => ?_
  subst he
  exact ⟨_, rfl, law_post Try.laidOut rfl hW' rfl rfl Try.underlying4 (by rw [Try.params12]; decide +kernel) hU⟩

theorem FifoSmall_holds : Rows.FifoSmallSaid :=
  OpenClaim.holds_of_wide 12 Try.f12 rfl rfl rfl rfl rfl rfl rfl ⟨rfl, rfl, rfl, rfl, rfl⟩ rfl rfl rfl rfl rfl (by kernel_rfl) Try.func12 (by kernel_rfl)
    (of_decide_eq_true (by kernel_rfl)) (by unfold Func.isWrapper; first | (rw [if_pos (by decide +kernel)]; kernel_rfl) | (rw [if_neg (by decide +kernel)]; exact ⟨rfl, rfl⟩))
    (fun os started H enc _ => fifoSmall_lifted os started H enc)
end Go.Proofs.Ytmblplhehbdocaa
#print axioms Go.Proofs.Ytmblplhehbdocaa.FifoSmall_holds
