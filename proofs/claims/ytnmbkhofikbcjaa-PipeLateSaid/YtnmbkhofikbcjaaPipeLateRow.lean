/- PipeLate: for every input the law returns true, and its arguments read as they did. No condition. -/
import Derived.Test.YtnmbkhofikbcjaaPipeLateLaw
import Derived.Test.YtnmbkhofikbcjaaRow
namespace Go.Proofs.Ytnmbkhofikbcjaa
open Go.ChangeShapes Go.WideShapes Go.ChangeAt Go.RowKit Go.Deep

theorem Try.own : ownKnob Try.prog.godebug = none := by kernel_rfl
theorem Try.laidOut : laidOutB Try.prog = true := by kernel_rfl
theorem Try.cells4 : Try.prog.cellsOf 4 = 1 := by kernel_rfl
theorem Try.cells29 : Try.prog.cellsOf 29 = 1 := by kernel_rfl

theorem late_law (l : Int) (A B : Option Addr) (pn pc qn qc : Nat) (P : Nat → Bool) (V : Nat → Int) (w : World)
    (hp : 0 < pn → ∃ b o, A = some ⟨b, o, none⟩ ∧ ∀ j, j < pn → w.cell? ⟨b, o + j, none⟩ = some (.bool (P j)))
    (hq : 0 < qn → ∃ b o, B = some ⟨b, o, none⟩ ∧ ∀ j, j < qn → w.cell? ⟨b, o + j, none⟩ = some (.int .u32 (V j))) (hqn : qn ≤ 9223372036854775807) :
    Calls Try.prog 8 #[.int .i64 l, .slice A pn pc, .slice B qn qc] w fun e w' => e = .returned (.bool true) ∧ Upd Non w w' := by
  by_cases h : l < 1 ∨ 16 < l ∨ 400 < pn
  · exact late_none l A B pn pc qn qc h w
  · obtain ⟨L, rfl⟩ := Int.eq_ofNat_of_zero_le (show 0 ≤ l by omega)
    exact late_some L A B pn pc qn qc P V (by omega) (by omega) (by omega) w hp hq hqn

set_option maxRecDepth 100000 in
theorem pipeLate_lifted (os : Os) (started : os.Started) (H : Type) (enc : TypeId × Value → H) :
    ReturnsInHanded {} Try.checked os 8 .any (Rows.pipeLateSpec.pre6 enc Try.prog Try.f8 Rows.pipeLateRow.domain false) (Rows.pipeLateSpec.post enc Try.prog Try.f8 false true false false) := by
  refine returnsInHanded_of_change (C := Try.checked) Try.own started (by kernel_rfl) Try.func8
    (ChangeSpec.witness6 (enc := enc) (C := Try.checked) false ⟨#[], #[.int .i64 0, .slice none 0 0, .slice none 0 0], []⟩ 8 (by kernel_rfl) (by kernel_rfl) (by kernel_rfl) (by kernel_rfl)) ?_
  intro W base args ds gs before hval0 hW hcnd _
  have hval : ∀ (j : Nat) t v, Try.f8.params[j]? = some t → args[j]? = some v → Value.okWide Try.prog W .any base t v := hval0
  have hW' := hW
  obtain ⟨p, q, hA0, hV, rfl, hfz, hnd⟩ := hW
  have hA : DataW.TrodAll enc Try.prog W 0 (fun _ => true) true Try.f8.params.toList args.toList ds p := hA0
  rw [Try.params8] at hA hval
  obtain ⟨v0, v1, v2, d0, d1, d2, p0, p1, p2, rfl, rfl, rfl, h0, h1, h2⟩ := trodAll_three hA
  obtain ⟨rfl, rfl⟩ := trodVars_none hV
  obtain ⟨l, rfl, e0, _, w0⟩ := open_int Try.underlying3 (hval 0 3 v0 rfl rfl) h0
  obtain ⟨A, pn, pc, rfl⟩ := okWide_slice Try.underlying22 (hval 1 22 v1 rfl rfl)
  obtain ⟨B, qn, qc, rfl⟩ := okWide_slice Try.underlying52 (hval 2 52 v2 rfl rfl)
  clear hA0 hval0
  have form : ∀ (A : Option Addr) (n c : Nat) (d : DataW H) (ps : List MemPlace), DataW.Trod enc Try.prog W 0 (fun _ => true) true 22 (.slice A n c) d ps →
      ∃ P : Nat → Bool, 0 < n → ∃ b o, A = some ⟨b, o, none⟩ ∧ ∀ j, j < n → W.cell? ⟨b, o + j, none⟩ = some (.bool (P j)) := by
    intro A n c d ps h
    obtain ⟨fuel, hf⟩ := h
    rcases open_bools Try.underlying22 Try.underlying4 Try.cells4 hf with ⟨hcs, _⟩ | ⟨a, len, cap, P, hcs, _, hl, _, _, hc⟩
    · refine ⟨fun _ => false, fun hn => ?_⟩
      simp [Value.cells] at hcs
      omega
    · simp [Value.cells] at hcs
      obtain ⟨rfl, rfl, rfl⟩ := hcs
      refine ⟨P, fun hn => ?_⟩
      obtain ⟨b, o, rfl⟩ := addr_form (hc 0 (by omega))
      exact ⟨b, o, rfl, fun j hj => by rw [← addr_add]; exact hc j (by omega)⟩
  obtain ⟨P, hp⟩ := form A pn pc d1 p1 h1
  have formV : ∃ V : Nat → Int, (0 < qn → ∃ b o, B = some ⟨b, o, none⟩ ∧ ∀ j, j < qn → W.cell? ⟨b, o + j, none⟩ = some (.int .u32 (V j))) ∧ qn ≤ 9223372036854775807 := by
    obtain ⟨fuel, hf⟩ := h2
    rcases open_ints Try.underlying52 Try.underlying29 Try.cells29 hf with ⟨hcs, _⟩ | ⟨a, len, cap, zs, hcs, _, hl, hm, hz, _, hc, _⟩
    · simp [Value.cells] at hcs
      exact ⟨fun _ => 0, fun hn => by omega, by omega⟩
    · simp [Value.cells] at hcs
      obtain ⟨rfl, rfl, rfl⟩ := hcs
      have hz' : zs.length = qc := by simpa using hz
      have hm' : qc ≤ 9223372036854775807 := hm
      refine ⟨fun j => zs.getD j 0, fun hn => ?_, by omega⟩
      obtain ⟨b, o, rfl⟩ := addr_form (hc 0 (by omega))
      exact ⟨b, o, rfl, fun j hj => by rw [← addr_add]; exact hc j (by omega)⟩
  obtain ⟨V, hq, hqn⟩ := formV
  refine (late_law l A B pn pc qn qc P V W hp hq hqn).mono fun e W' ⟨he, hU⟩ => ?_
  subst he
  exact ⟨_, rfl, law_post Try.laidOut rfl hW' rfl rfl Try.underlying4 (by rw [Try.params8]; decide +kernel) hU⟩

theorem PipeLate_holds : Rows.PipeLateSaid :=
  OpenClaim.holds_of_wide 8 Try.f8 rfl rfl rfl rfl rfl rfl rfl ⟨rfl, rfl, rfl, rfl, rfl⟩ rfl rfl rfl rfl rfl (by kernel_rfl) Try.func8 (by kernel_rfl)
    (of_decide_eq_true (by kernel_rfl)) (by unfold Func.isWrapper; first | (rw [if_pos (by decide +kernel)]; kernel_rfl) | (rw [if_neg (by decide +kernel)]; exact ⟨rfl, rfl⟩))
    (fun os started H enc _ => pipeLate_lifted os started H enc)
end Go.Proofs.Ytnmbkhofikbcjaa
#print axioms Go.Proofs.Ytnmbkhofikbcjaa.PipeLate_holds
