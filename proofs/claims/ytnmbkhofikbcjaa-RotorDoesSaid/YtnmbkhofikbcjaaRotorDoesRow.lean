/- RotorDoes: for every input the law returns true, and its argument reads as it did. No condition. -/
import Derived.Test.YtnmbkhofikbcjaaRotorLaw
import Derived.Test.YtnmbkhofikbcjaaRow
import Derived.Deep.Slices
import Derived.Deep.Fields
import Derived.ChangeSame
namespace Go.Proofs.Ytnmbkhofikbcjaa
open Go.ChangeShapes Go.WideShapes Go.ChangeAt Go.RowKit Go.Deep

theorem Try.own : ownKnob Try.prog.godebug = none := by kernel_rfl
theorem Try.laidOut : laidOutB Try.prog = true := by kernel_rfl
theorem u32_ok {n : Int} (h : (Lit.int .u32 n).wf = true) : 0 ≤ n ∧ n ≤ 4294967295 := by
  have e1 : IntKind.u32.min = 0 := by decide
  have e2 : IntKind.u32.max = 4294967295 := by decide
  have h := Bool.and_eq_true_iff.1 h
  have h1 := of_decide_eq_true h.1
  have h2 := of_decide_eq_true h.2
  omega

/-- A slice of structs of an int and a uint32, opened to its cells. -/
theorem open_deeds {H : Type} {enc : TypeId × Value → H} {P : Program} {w : World} {base : Nat} {spare : Nat → Bool} {held : Bool} {t e : TypeId} {f0 f1 : Field} {fuel : Nat} {cs : List Value} {x : DataW H × List MemPlace}
    (ht : P.underlying t = some (.slice e)) (he : P.underlying e = some (.struct #[f0, f1])) (hC : P.cellsOf e = 2) (k0 : P.cellsOf f0.type = 1) (k1 : P.cellsOf f1.type = 1) (o0 : f0.offset = 0) (o1 : f1.offset = 1)
    (h0 : P.underlying f0.type = some (.int .i64)) (h1 : P.underlying f1.type = some (.int .u32)) (h : DataW.trod enc P w base spare held fuel t cs = some x) :
    ∃ (A : Option Addr) (n c : Nat) (R V : Nat → Int), cs = [.slice A n c] ∧ (0 < n → ∃ b o, A = some ⟨b, o, none⟩ ∧ ∀ j, j < n → w.cell? ⟨b, o + j * 2, none⟩ = some (.int .i64 (R j)) ∧ w.cell? ⟨b, o + j * 2 + 1, none⟩ = some (.int .u32 (V j)) ∧ 0 ≤ V j ∧ V j ≤ 4294967295) := by
  rcases open_slice ht h with ⟨rfl, _⟩ | ⟨a, len, cap, m, n, D, Pl, rfl, hb, hl, hm, hmm, hx, hi⟩
  · exact ⟨none, 0, 0, fun _ => 0, fun _ => 0, rfl, fun hn => by omega⟩
  · have key : ∀ i, i < len → ∃ p : Int × Int, w.cell? (a.add (i * 2)) = some (.int .i64 p.1) ∧ w.cell? (a.add (i * 2 + 1)) = some (.int .u32 p.2) ∧ 0 ≤ p.2 ∧ p.2 ≤ 4294967295 := by
      intro i hil
      obtain ⟨cs', hc, ht'⟩ := hi i (by rw [hmm]; split <;> omega)
      rw [hC] at hc
      obtain ⟨ys, n', hn', hy, hlen, hyl, hf⟩ := DataW.trod_struct he ht'
      obtain ⟨_, hcl, hat⟩ := World.cells?_some hc
      match cs', hcl with
      | [c0, c1], _ =>
        have g0 := hf 0 f0 rfl
        have g1 := hf 1 f1 rfl
        rw [o0, k0] at g0
        rw [o1, k1] at g1
        have q0 := hat 0 (by omega)
        have q1 := hat 1 (by omega)
        obtain ⟨y0, z0⟩ : ∃ y, ys[0]? = some y := ⟨_, List.getElem?_eq_getElem (by rw [hyl]; simp)⟩
        obtain ⟨y1, z1⟩ : ∃ y, ys[1]? = some y := ⟨_, List.getElem?_eq_getElem (by rw [hyl]; simp)⟩
        rw [z0] at g0
        rw [z1] at g1
        obtain ⟨r, hr, _, _⟩ := DataW.trod_int h0 g0
        obtain ⟨v, hv, _, hw⟩ := DataW.trod_int h1 g1
        simp at hr hv q0 q1
        subst hr hv
        refine ⟨(r, v), ?_, ?_, u32_ok hw⟩
        · simpa [← Go.Deep.add_add, Addr.add] using q0
        · rw [← Go.Deep.add_add]; exact q1
    obtain ⟨Q, hQ⟩ := choose_lt (α := Int × Int) key
    refine ⟨some a, len, cap, fun i => (Q i).1, fun i => (Q i).2, rfl, fun hn => ?_⟩
    obtain ⟨b, o, rfl⟩ := addr_form (by simpa using (hQ 0 hn).1)
    refine ⟨b, o, rfl, fun j hj => ?_⟩
    have := hQ j hj
    rw [addr_add, addr_add] at this
    exact this

theorem rotorDoes_law (A : Option Addr) (n c : Nat) (R V : Nat → Int) (w : World)
    (hc : 0 < n → ∃ b o, A = some ⟨b, o, none⟩ ∧ ∀ j, j < n → w.cell? ⟨b, o + j * 2, none⟩ = some (.int .i64 (R j)) ∧ w.cell? ⟨b, o + j * 2 + 1, none⟩ = some (.int .u32 (V j)) ∧ 0 ≤ V j ∧ V j ≤ 4294967295) :
    Calls Try.prog 11 #[.slice A n c] w fun e w' => e = .returned (.bool true) ∧ Upd Non w w' := by
  by_cases h : 300 < n
  · exact does_none A n c h w
  · exact does_some A n c R V (by omega) w hc

set_option maxRecDepth 100000 in
theorem rotorDoes_lifted (os : Os) (started : os.Started) (H : Type) (enc : TypeId × Value → H) :
    ReturnsInHanded {} Try.checked os 11 .any (Rows.rotorDoesSpec.pre6 enc Try.prog Try.f11 Rows.rotorDoesRow.domain false) (Rows.rotorDoesSpec.post enc Try.prog Try.f11 false true false false) := by
  refine returnsInHanded_of_change (C := Try.checked) Try.own started (by kernel_rfl) Try.func11
    (ChangeSpec.witness6 (enc := enc) (C := Try.checked) false ⟨#[], #[.slice none 0 0], []⟩ 8 (by kernel_rfl) (by kernel_rfl) (by kernel_rfl) (by kernel_rfl)) ?_
  intro W base args ds gs before hval0 hW hcnd _
  have hval : ∀ (j : Nat) t v, Try.f11.params[j]? = some t → args[j]? = some v → Value.okWide Try.prog W .any base t v := hval0
  have hW' := hW
  obtain ⟨p, q, hA0, hV, rfl, hfz, hnd⟩ := hW
  have hA : DataW.TrodAll enc Try.prog W 0 (fun _ => true) true Try.f11.params.toList args.toList ds p := hA0
  rw [Try.params11] at hA hval
  obtain ⟨v0, d0, rfl, rfl, h0⟩ := trodAll_one hA
  obtain ⟨rfl, rfl⟩ := trodVars_none hV
  obtain ⟨A, n, c, rfl⟩ := okWide_slice Try.underlying70 (hval 0 70 v0 rfl rfl)
  clear hA0 hval0
  obtain ⟨R, V, hc⟩ : ∃ R V : Nat → Int, 0 < n → ∃ b o, A = some ⟨b, o, none⟩ ∧ ∀ j, j < n → W.cell? ⟨b, o + j * 2, none⟩ = some (.int .i64 (R j)) ∧ W.cell? ⟨b, o + j * 2 + 1, none⟩ = some (.int .u32 (V j)) ∧ 0 ≤ V j ∧ V j ≤ 4294967295 := by
    obtain ⟨fuel, hf⟩ := h0
    obtain ⟨A', n', c', R, V, hcs, hh⟩ := open_deeds Try.underlying70 Try.underlying77 (by kernel_rfl) (by kernel_rfl) (by kernel_rfl) rfl rfl Try.underlying3 Try.underlying29 hf
    simp [Value.cells] at hcs
    obtain ⟨rfl, rfl, rfl⟩ := hcs
    exact ⟨R, V, hh⟩
  refine (rotorDoes_law A n c R V W hc).mono fun e W' ⟨he, hU⟩ => ?_
  subst he
  exact ⟨_, rfl, law_post Try.laidOut rfl hW' rfl rfl Try.underlying4 (by rw [Try.params11]; decide +kernel) hU⟩

theorem RotorDoes_holds : Rows.RotorDoesSaid :=
  OpenClaim.holds_of_wide 11 Try.f11 rfl rfl rfl rfl rfl rfl rfl ⟨rfl, rfl, rfl, rfl, rfl⟩ rfl rfl rfl rfl rfl (by kernel_rfl) Try.func11 (by kernel_rfl)
    (of_decide_eq_true (by kernel_rfl)) (by unfold Func.isWrapper; first | (rw [if_pos (by decide +kernel)]; kernel_rfl) | (rw [if_neg (by decide +kernel)]; exact ⟨rfl, rfl⟩))
    (fun os started H enc _ => rotorDoes_lifted os started H enc)
end Go.Proofs.Ytnmbkhofikbcjaa
#print axioms Go.Proofs.Ytnmbkhofikbcjaa.RotorDoes_holds
