/- IrqDoes: for every input the law returns true, and its arguments read as they did. No condition. -/
import Derived.Test.YtkhhmkcpbefadaaIrqDoesLaw
import Derived.Test.YtkhhmkcpbefadaaIrqOpen2
namespace Go.Proofs.Ytkhhmkcpbefadaa
open Go.ChangeShapes Go.WideShapes Go.ChangeAt Go.RowKit Go.Deep Go.Joins

set_option maxRecDepth 100000 in
theorem irqDoes_lifted (os : Os) (started : os.Started) (H : Type) (enc : TypeId × Value → H) :
    ReturnsInHanded {} Try.checked os 6 .any (Rows.irqDoesSpec.pre6 enc Try.prog Try.f6 Rows.irqDoesRow.domain false) (Rows.irqDoesSpec.post enc Try.prog Try.f6 false true false false) := by
  refine returnsInHanded_of_change_sized (C := Try.checked) Try.own started (by kernel_rfl) Try.func6
    (ChangeSpec.witness6 (enc := enc) (C := Try.checked) false ⟨#[], #[.slice none 0 0, .slice none 0 0], []⟩ 8 (by kernel_rfl) (by kernel_rfl) (by kernel_rfl) (by kernel_rfl)) ?_
  intro W base args ds gs before hval0 hW hcnd hsz0 _
  have hsz : (DataW.weightsEach Try.prog (Try.f6.params.toList ++ Rows.irqDoesSpec.plain.varTypes Try.prog) (ds ++ gs)).all (· ≤ reachBytes) = true := hsz0
  have hval : ∀ (j : Nat) t v, Try.f6.params[j]? = some t → args[j]? = some v → Value.okWide Try.prog W .any base t v := hval0
  have hW' := hW
  obtain ⟨p, q, hA0, hV, rfl, hfz, hnd⟩ := hW
  have hA : DataW.TrodAll enc Try.prog W 0 (fun _ => true) true Try.f6.params.toList args.toList ds p := hA0
  rw [Try.params6] at hA hval hsz
  obtain ⟨v0, v1, d0, d1, p0, p1, rfl, rfl, rfl, h0, h1⟩ := trodAll_two hA
  obtain ⟨rfl, rfl⟩ := trodVars_none hV
  obtain ⟨A, n, cc, rfl⟩ := okWide_slice Try.underlying33 (hval 0 33 v0 rfl rfl)
  obtain ⟨D, m, dc, rfl⟩ := okWide_slice Try.underlying42 (hval 1 42 v1 rfl rfl)
  clear hA0 hval0 hsz0
  obtain ⟨hn, O, N, hdev⟩ := open_devs (j := 0) hsz rfl rfl h0
  obtain ⟨d, rfl, hdeed⟩ := open_deeds (j := 1) hsz rfl rfl h1
  refine (does_law A n cc O N D dc d hn W hdev hdeed).mono fun e W' ⟨he, hU⟩ => ?_
  subst he
  exact ⟨_, rfl, law_post Try.laidOut rfl hW' rfl rfl Try.underlying4 (by rw [Try.params6]; decide +kernel) hU⟩

theorem IrqDoes_holds : Rows.IrqDoesSaid :=
  OpenClaim.holds_of_wide 6 Try.f6 rfl rfl rfl rfl rfl rfl rfl ⟨rfl, rfl, rfl, rfl, rfl⟩ rfl rfl rfl rfl rfl (by kernel_rfl) Try.func6 (by kernel_rfl)
    (of_decide_eq_true (by kernel_rfl)) (by unfold Func.isWrapper; first | (rw [if_pos (by decide +kernel)]; kernel_rfl) | (rw [if_neg (by decide +kernel)]; exact ⟨rfl, rfl⟩))
    (fun os started H enc _ => irqDoes_lifted os started H enc)
end Go.Proofs.Ytkhhmkcpbefadaa
#print axioms Go.Proofs.Ytkhhmkcpbefadaa.IrqDoes_holds
