/- PipeApart: for every input the law returns true, and its arguments read as they did. No condition. -/
import Derived.Test.YtnmbkhofikbcjaaPipeApartLaw
import Derived.Test.YtnmbkhofikbcjaaRow
namespace Go.Proofs.Ytnmbkhofikbcjaa
open Go.ChangeShapes Go.WideShapes Go.ChangeAt Go.RowKit Go.Deep

theorem Try.own : ownKnob Try.prog.godebug = none := by kernel_rfl
theorem Try.laidOut : laidOutB Try.prog = true := by kernel_rfl
theorem Try.cells4 : Try.prog.cellsOf 4 = 1 := by kernel_rfl

theorem apart_law (l at_ : Int) (A B : Option Addr) (pn pc qn qc : Nat) (P O : Nat → Bool) (w : World)
    (hp : 0 < pn → ∃ b o, A = some ⟨b, o, none⟩ ∧ ∀ j, j < pn → w.cell? ⟨b, o + j, none⟩ = some (.bool (P j)))
    (hq : 0 < qn → ∃ b o, B = some ⟨b, o, none⟩ ∧ ∀ j, j < qn → w.cell? ⟨b, o + j, none⟩ = some (.bool (O j))) :
    Calls Try.prog 3 #[.int .i64 l, .slice A pn pc, .slice B qn qc, .int .i64 at_] w fun e w' => e = .returned (.bool true) ∧ Upd Non w w' := by
  by_cases h : l < 1 ∨ 16 < l ∨ 400 < pn ∨ qn < pn ∨ pn = 0
  · exact apart_none l at_ A B pn pc qn qc h w
  · obtain ⟨b, o, hA, hp2⟩ := hp (by omega)
    obtain ⟨b', o', hB, hq2⟩ := hq (by omega)
    clear hp hq
    subst hA hB
    obtain ⟨L, rfl⟩ := Int.eq_ofNat_of_zero_le (show 0 ≤ l by omega)
    exact apart_some L at_ b o pn pc b' o' qn qc P O (by omega) (by omega) (by omega) (by omega) (by omega) w hp2 hq2

set_option maxRecDepth 100000 in
theorem pipeApart_lifted (os : Os) (started : os.Started) (H : Type) (enc : TypeId × Value → H) :
    ReturnsInHanded {} Try.checked os 3 .any (Rows.pipeApartSpec.pre6 enc Try.prog Try.f3 Rows.pipeApartRow.domain false) (Rows.pipeApartSpec.post enc Try.prog Try.f3 false true false false) := by
  refine returnsInHanded_of_change (C := Try.checked) Try.own started (by kernel_rfl) Try.func3
    (ChangeSpec.witness6 (enc := enc) (C := Try.checked) false ⟨#[], #[.int .i64 0, .slice none 0 0, .slice none 0 0, .int .i64 0], []⟩ 8 (by kernel_rfl) (by kernel_rfl) (by kernel_rfl) (by kernel_rfl)) ?_
  intro W base args ds gs before hval0 hW hcnd _
  have hval : ∀ (j : Nat) t v, Try.f3.params[j]? = some t → args[j]? = some v → Value.okWide Try.prog W .any base t v := hval0
  have hW' := hW
  obtain ⟨p, q, hA0, hV, rfl, hfz, hnd⟩ := hW
  have hA : DataW.TrodAll enc Try.prog W 0 (fun _ => true) true Try.f3.params.toList args.toList ds p := hA0
  rw [Try.params3] at hA hval
  obtain ⟨v0, v1, v2, v3, d0, d1, d2, d3, p0, p1, p2, p3, rfl, rfl, rfl, h0, h1, h2, h3⟩ := trodAll_four hA
  obtain ⟨rfl, rfl⟩ := trodVars_none hV
  obtain ⟨l, rfl, e0, _, w0⟩ := open_int Try.underlying3 (hval 0 3 v0 rfl rfl) h0
  obtain ⟨at_, rfl, e3, _, w3⟩ := open_int Try.underlying3 (hval 3 3 v3 rfl rfl) h3
  obtain ⟨A, pn, pc, rfl⟩ := okWide_slice Try.underlying22 (hval 1 22 v1 rfl rfl)
  obtain ⟨B, qn, qc, rfl⟩ := okWide_slice Try.underlying22 (hval 2 22 v2 rfl rfl)
  clear hA0 hval0
  have form : ∀ (A : Option Addr) (n c : Nat) (d : DataW H) (ps : List MemPlace), DataW.Trod enc Try.prog W 0 (fun _ => true) true 22 (.slice A n c) d ps →
      ∃ P : Nat → Bool, 0 < n → ∃ b o, A = some ⟨b, o, none⟩ ∧ ∀ j, j < n → W.cell? ⟨b, o + j, none⟩ = some (.bool (P j)) := by
    intro A n c d ps h
    obtain ⟨fuel, hf⟩ := h
    rcases open_bools Try.underlying22 Try.underlying4 Try.cells4 hf with ⟨hcs, _⟩ | ⟨a, len, cap, P, hcs, _, hl, _, _, hc⟩
    · refine ⟨fun _ => false, fun hn => ?_⟩
      simp [Value.cells] at hcs
      omega
    · simp [Value.cells] at hcs
      obtain ⟨rfl, rfl, rfl⟩ := hcs
      refine ⟨P, fun hn => ?_⟩
      obtain ⟨b, o, rfl⟩ := addr_form (hc 0 (by omega))
      exact ⟨b, o, rfl, fun j hj => by rw [← addr_add]; exact hc j (by omega)⟩
  obtain ⟨P, hp⟩ := form A pn pc d1 p1 h1
  obtain ⟨O, hq⟩ := form B qn qc d2 p2 h2
  refine (apart_law l at_ A B pn pc qn qc P O W hp hq).mono fun e W' ⟨he, hU⟩ => ?_
  subst he
  exact ⟨_, rfl, law_post Try.laidOut rfl hW' rfl rfl Try.underlying4 (by rw [Try.params3]; decide +kernel) hU⟩

theorem PipeApart_holds : Rows.PipeApartSaid :=
  OpenClaim.holds_of_wide 3 Try.f3 rfl rfl rfl rfl rfl rfl rfl ⟨rfl, rfl, rfl, rfl, rfl⟩ rfl rfl rfl rfl rfl (by kernel_rfl) Try.func3 (by kernel_rfl)
    (of_decide_eq_true (by kernel_rfl)) (by unfold Func.isWrapper; first | (rw [if_pos (by decide +kernel)]; kernel_rfl) | (rw [if_neg (by decide +kernel)]; exact ⟨rfl, rfl⟩))
    (fun os started H enc _ => pipeApart_lifted os started H enc)
end Go.Proofs.Ytnmbkhofikbcjaa
#print axioms Go.Proofs.Ytnmbkhofikbcjaa.PipeApart_holds
