/- TimerDoes: for every input the law returns true, and its arguments read as they did. No condition. -/
import Derived.Test.YtmblplhehbdocaaTimerDoesLaw
import Derived.Test.YtmblplhehbdocaaTimerRow
namespace Go.Proofs.Ytmblplhehbdocaa
open Go.ChangeShapes Go.WideShapes Go.ChangeAt Go.RowKit Go.Deep Go.Joins

theorem Try.cells69 : Try.prog.cellsOf 69 = 4 := by kernel_rfl

/-- A deed, opened to its cells. -/
theorem open_deed {H : Type} {enc : TypeId × Value → H} {w : World} {base : Nat} {spare : Nat → Bool} {held : Bool} {fuel : Nat} {cs : List Value} {x : DataW H × List MemPlace} (hl : cs.length = 4) (h : DataW.trod enc Try.prog w base spare held fuel 69 cs = some x) :
    ∃ q : Int × Int × Int × Int, cs = [.int .i64 q.1, .int .i64 q.2.1, .int .i64 q.2.2.1, .int .u32 q.2.2.2] ∧ 0 ≤ q.2.2.2 ∧ q.2.2.2 ≤ 4294967295 := by
  match cs, hl with
  | [c0, c1, c2, c3], _ =>
    obtain ⟨n, y0, y1, y2, y3, g0, g1, g2, g3⟩ := trod_four Try.underlying69 (by kernel_rfl) h
    obtain ⟨r, hr, _, _⟩ := DataW.trod_int Try.underlying3 g0
    obtain ⟨a, ha, _, _⟩ := DataW.trod_int Try.underlying3 g1
    obtain ⟨m, hm, _, _⟩ := DataW.trod_int Try.underlying3 g2
    obtain ⟨u, hu, _, hw⟩ := DataW.trod_int Try.underlying22 g3
    simp at hr ha hu hm
    subst hr ha hu hm
    exact ⟨(r, a, m, u), rfl, u32_ok hw⟩

theorem open_deeds {H : Type} {enc : TypeId × Value → H} {w : World} {base : Nat} {spare : Nat → Bool} {held : Bool} {fuel : Nat} {cs : List Value} {x : DataW H × List MemPlace} (h : DataW.trod enc Try.prog w base spare held fuel 65 cs = some x) :
    ∃ (A : Option Addr) (n c : Nat) (R O V E : Nat → Int), cs = [.slice A n c] ∧ (0 < n → ∃ b o, A = some ⟨b, o, none⟩ ∧ ∀ j, j < n → w.cell? ⟨b, o + j * 4, none⟩ = some (.int .i64 (R j)) ∧ w.cell? ⟨b, o + j * 4 + 1, none⟩ = some (.int .i64 (O j)) ∧ w.cell? ⟨b, o + j * 4 + 2, none⟩ = some (.int .i64 (V j)) ∧ w.cell? ⟨b, o + j * 4 + 3, none⟩ = some (.int .u32 (E j)) ∧ 0 ≤ E j ∧ E j ≤ 4294967295) := by
  rcases open_slice Try.underlying65 h with ⟨rfl, _⟩ | ⟨a, len, cap, m, n, D, Pl, rfl, hb, hl, hm, hmm, hx, hi⟩
  · exact ⟨none, 0, 0, fun _ => 0, fun _ => 0, fun _ => 0, fun _ => 0, rfl, fun hn => by omega⟩
  · have key : ∀ i, i < len → ∃ q : Int × Int × Int × Int, w.cell? (a.add (i * 4)) = some (.int .i64 q.1) ∧ w.cell? (a.add (i * 4 + 1)) = some (.int .i64 q.2.1) ∧ w.cell? (a.add (i * 4 + 2)) = some (.int .i64 q.2.2.1) ∧ w.cell? (a.add (i * 4 + 3)) = some (.int .u32 q.2.2.2) ∧ 0 ≤ q.2.2.2 ∧ q.2.2.2 ≤ 4294967295 := by
      intro i hil
      obtain ⟨cs', hc, ht'⟩ := hi i (by rw [hmm]; split <;> omega)
      rw [Try.cells69] at hc
      obtain ⟨_, hcl, hat⟩ := World.cells?_some hc
      obtain ⟨q, rfl, hq⟩ := open_deed hcl ht'
      refine ⟨q, ?_, ?_, ?_, ?_, hq⟩
      · have := hat 0 (by omega)
        rw [Go.Deep.add_add] at this
        exact this
      · rw [← Go.Deep.add_add]; exact hat 1 (by omega)
      · rw [← Go.Deep.add_add]; exact hat 2 (by omega)
      · rw [← Go.Deep.add_add]; exact hat 3 (by omega)
    obtain ⟨Q, hQ⟩ := choose_lt (α := Int × Int × Int × Int) key
    refine ⟨some a, len, cap, fun i => (Q i).1, fun i => (Q i).2.1, fun i => (Q i).2.2.1, fun i => (Q i).2.2.2, rfl, fun hn => ?_⟩
    obtain ⟨b, o, rfl⟩ := addr_form (by simpa using (hQ 0 hn).1)
    refine ⟨b, o, rfl, fun j hj => ?_⟩
    have := hQ j hj
    rw [addr_add, addr_add, addr_add, addr_add] at this
    exact this

set_option maxRecDepth 100000 in
theorem timerDoes_lifted (os : Os) (started : os.Started) (H : Type) (enc : TypeId × Value → H) :
    ReturnsInHanded {} Try.checked os 6 .any (Rows.timerDoesSpec.pre6 enc Try.prog Try.f6 Rows.timerDoesRow.domain false) (Rows.timerDoesSpec.post enc Try.prog Try.f6 false true false false) := by
  refine returnsInHanded_of_change (C := Try.checked) Try.own started (by kernel_rfl) Try.func6
    (ChangeSpec.witness6 (enc := enc) (C := Try.checked) false ⟨#[], #[.agg #[.int .u32 0, .int .u32 0, .int .u32 0, .int .u32 0], .slice none 0 0], []⟩ 8 (by kernel_rfl) (by kernel_rfl) (by kernel_rfl) (by kernel_rfl)) ?_
  intro W base args ds gs before hval0 hW hcnd _
  have hval : ∀ (j : Nat) t v, Try.f6.params[j]? = some t → args[j]? = some v → Value.okWide Try.prog W .any base t v := hval0
  have hW' := hW
  obtain ⟨p, q, hA0, hV, rfl, hfz, hnd⟩ := hW
  have hA : DataW.TrodAll enc Try.prog W 0 (fun _ => true) true Try.f6.params.toList args.toList ds p := hA0
  rw [Try.params6] at hA hval
  obtain ⟨v0, v1, d0, d1, p0, p1, rfl, rfl, rfl, h0, h1⟩ := trodAll_two hA
  obtain ⟨rfl, rfl⟩ := trodVars_none hV
  obtain ⟨c, l, k, h, rfl, hc, hl, hk, hh⟩ := open_state (hval 0 28 v0 rfl rfl) h0
  obtain ⟨A, n, cc, rfl⟩ := okWide_slice Try.underlying65 (hval 1 65 v1 rfl rfl)
  clear hA0 hval0
  obtain ⟨R, O, V, E, hd⟩ : ∃ R O V E : Nat → Int, 0 < n → ∃ b o, A = some ⟨b, o, none⟩ ∧ ∀ j, j < n → W.cell? ⟨b, o + j * 4, none⟩ = some (.int .i64 (R j)) ∧ W.cell? ⟨b, o + j * 4 + 1, none⟩ = some (.int .i64 (O j)) ∧ W.cell? ⟨b, o + j * 4 + 2, none⟩ = some (.int .i64 (V j)) ∧ W.cell? ⟨b, o + j * 4 + 3, none⟩ = some (.int .u32 (E j)) ∧ 0 ≤ E j ∧ E j ≤ 4294967295 := by
    obtain ⟨fuel, hf⟩ := h1
    obtain ⟨A', n', c', R, O, V, E, hcs, hh⟩ := open_deeds hf
    simp [Value.cells] at hcs
    obtain ⟨rfl, rfl, rfl⟩ := hcs
    exact ⟨R, O, V, E, hh⟩
  refine (does_law c l k h hc hl hk hh A n cc R O V E W hd).mono fun e W' ⟨he, hU⟩ => ?_
  subst he
  exact ⟨_, rfl, law_post Try.laidOut rfl hW' rfl rfl Try.underlying4 (by rw [Try.params6]; decide +kernel) hU⟩

theorem TimerDoes_holds : Rows.TimerDoesSaid :=
  OpenClaim.holds_of_wide 6 Try.f6 rfl rfl rfl rfl rfl rfl rfl ⟨rfl, rfl, rfl, rfl, rfl⟩ rfl rfl rfl rfl rfl (by kernel_rfl) Try.func6 (by kernel_rfl)
    (of_decide_eq_true (by kernel_rfl)) (by unfold Func.isWrapper; first | (rw [if_pos (by decide +kernel)]; kernel_rfl) | (rw [if_neg (by decide +kernel)]; exact ⟨rfl, rfl⟩))
    (fun os started H enc _ => timerDoes_lifted os started H enc)
end Go.Proofs.Ytmblplhehbdocaa
#print axioms Go.Proofs.Ytmblplhehbdocaa.TimerDoes_holds
