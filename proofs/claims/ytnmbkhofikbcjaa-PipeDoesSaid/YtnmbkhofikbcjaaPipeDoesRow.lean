/- PipeDoes: for every input the law returns true, and its arguments read as they did. No condition. -/
import Derived.Test.YtnmbkhofikbcjaaPipeDoesLaw
import Derived.Test.YtnmbkhofikbcjaaRow
import Derived.Deep.Slices
import Derived.Deep.Fields
import Derived.ChangeSame
namespace Go.Proofs.Ytnmbkhofikbcjaa
open Go.ChangeShapes Go.WideShapes Go.ChangeAt Go.RowKit Go.Deep

theorem Try.own : ownKnob Try.prog.godebug = none := by kernel_rfl
theorem Try.laidOut : laidOutB Try.prog = true := by kernel_rfl
theorem Try.cells3 : Try.prog.cellsOf 3 = 1 := by kernel_rfl
theorem Try.cells26 : Try.prog.cellsOf 26 = 1 := by kernel_rfl
theorem Try.cells31 : Try.prog.cellsOf 31 = 2 := by kernel_rfl
theorem Try.cells33 : Try.prog.cellsOf 33 = 3 := by kernel_rfl
theorem Try.cells60 : Try.prog.cellsOf 60 = 4 := by kernel_rfl
theorem Try.cells29 : Try.prog.cellsOf 29 = 1 := by kernel_rfl

/-- A struct of one cell and of another part, opened. -/
theorem trod_two {H : Type} {enc : TypeId × Value → H} {P : Program} {w : World} {base : Nat} {spare : Nat → Bool} {held : Bool} {fuel : Nat} {t : TypeId} {f0 f1 : Field} {m : Nat} {c0 : Value} {cs : List Value} {x : DataW H × List MemPlace}
    (he : P.underlying t = some (.struct #[f0, f1])) (o0 : f0.offset = 0) (k0 : P.cellsOf f0.type = 1) (o1 : f1.offset = 1) (k1 : P.cellsOf f1.type = m) (hm : cs.length = m) (h : DataW.trod enc P w base spare held fuel t (c0 :: cs) = some x) :
    ∃ n y0 y1, DataW.trod enc P w base spare held n f0.type [c0] = some y0 ∧ DataW.trod enc P w base spare held n f1.type cs = some y1 := by
  obtain ⟨ys, n, _, _, _, hyl, hf⟩ := DataW.trod_struct he h
  obtain ⟨y0, z0⟩ : ∃ y, ys[0]? = some y := ⟨_, List.getElem?_eq_getElem (by rw [hyl]; simp)⟩
  obtain ⟨y1, z1⟩ : ∃ y, ys[1]? = some y := ⟨_, List.getElem?_eq_getElem (by rw [hyl]; simp)⟩
  have g0 := hf 0 f0 rfl
  have g1 := hf 1 f1 rfl
  rw [o0, k0, z0] at g0
  rw [o1, k1, z1] at g1
  refine ⟨n, y0, y1, g0, ?_⟩
  rw [← g1]
  congr 1
  rw [List.drop_succ_cons, List.drop_zero, List.take_of_length_le (by omega)]
/-- A deed, opened to its cells. -/
theorem open_deed {H : Type} {enc : TypeId × Value → H} {w : World} {base : Nat} {spare : Nat → Bool} {held : Bool} {fuel : Nat} {cs : List Value} {x : DataW H × List MemPlace} (hl : cs.length = 4) (h : DataW.trod enc Try.prog w base spare held fuel 60 cs = some x) :
    ∃ q : Int × Int × Int × Int, cs = [.int .i64 q.1, .int .i64 q.2.1, .int .u32 q.2.2.1, .int .i64 q.2.2.2] := by
  match cs, hl with
  | [c0, c1, c2, c3], _ =>
    obtain ⟨n, y0, y1, g0, g1⟩ := trod_two Try.underlying60 rfl Try.cells3 rfl Try.cells33 rfl h
    obtain ⟨r, hr, _, _⟩ := DataW.trod_int Try.underlying3 g0
    obtain ⟨n2, y2, y3, g2, g3⟩ := trod_two Try.underlying33 rfl Try.cells3 rfl Try.cells31 rfl g1
    obtain ⟨a, ha, _, _⟩ := DataW.trod_int Try.underlying3 g2
    obtain ⟨n4, y4, y5, g4, g5⟩ := trod_two Try.underlying31 rfl Try.cells29 rfl Try.cells26 rfl g3
    obtain ⟨u, hu, _, _⟩ := DataW.trod_int Try.underlying29 g4
    obtain ⟨m, hm, _, _⟩ := DataW.trod_int Try.underlying26 g5
    simp at hr ha hu hm
    subst hr ha hu hm
    exact ⟨(r, a, u, m), rfl⟩

theorem open_deeds {H : Type} {enc : TypeId × Value → H} {w : World} {base : Nat} {spare : Nat → Bool} {held : Bool} {fuel : Nat} {cs : List Value} {x : DataW H × List MemPlace} (h : DataW.trod enc Try.prog w base spare held fuel 55 cs = some x) :
    ∃ (A : Option Addr) (n c : Nat) (R O V E : Nat → Int), cs = [.slice A n c] ∧ (0 < n → ∃ b o, A = some ⟨b, o, none⟩ ∧ ∀ j, j < n → w.cell? ⟨b, o + j * 4, none⟩ = some (.int .i64 (R j)) ∧ w.cell? ⟨b, o + j * 4 + 1, none⟩ = some (.int .i64 (O j)) ∧ w.cell? ⟨b, o + j * 4 + 2, none⟩ = some (.int .u32 (V j)) ∧ w.cell? ⟨b, o + j * 4 + 3, none⟩ = some (.int .i64 (E j))) := by
  rcases open_slice Try.underlying55 h with ⟨rfl, _⟩ | ⟨a, len, cap, m, n, D, Pl, rfl, hb, hl, hm, hmm, hx, hi⟩
  · exact ⟨none, 0, 0, fun _ => 0, fun _ => 0, fun _ => 0, fun _ => 0, rfl, fun hn => by omega⟩
  · have key : ∀ i, i < len → ∃ q : Int × Int × Int × Int, w.cell? (a.add (i * 4)) = some (.int .i64 q.1) ∧ w.cell? (a.add (i * 4 + 1)) = some (.int .i64 q.2.1) ∧ w.cell? (a.add (i * 4 + 2)) = some (.int .u32 q.2.2.1) ∧ w.cell? (a.add (i * 4 + 3)) = some (.int .i64 q.2.2.2) := by
      intro i hil
      obtain ⟨cs', hc, ht'⟩ := hi i (by rw [hmm]; split <;> omega)
      rw [Try.cells60] at hc
      obtain ⟨_, hcl, hat⟩ := World.cells?_some hc
      obtain ⟨q, rfl⟩ := open_deed hcl ht'
      refine ⟨q, ?_, ?_, ?_, ?_⟩
      · have := hat 0 (by omega)
        rw [Go.Deep.add_add] at this
        exact this
      · rw [← Go.Deep.add_add]; exact hat 1 (by omega)
      · rw [← Go.Deep.add_add]; exact hat 2 (by omega)
      · rw [← Go.Deep.add_add]; exact hat 3 (by omega)
    obtain ⟨Q, hQ⟩ := choose_lt (α := Int × Int × Int × Int) key
    refine ⟨some a, len, cap, fun i => (Q i).1, fun i => (Q i).2.1, fun i => (Q i).2.2.1, fun i => (Q i).2.2.2, rfl, fun hn => ?_⟩
    obtain ⟨b, o, rfl⟩ := addr_form (by simpa using (hQ 0 hn).1)
    refine ⟨b, o, rfl, fun j hj => ?_⟩
    have := hQ j hj
    rw [addr_add, addr_add, addr_add, addr_add] at this
    exact this

theorem does_law (l : Int) (A : Option Addr) (n c : Nat) (R O V E : Nat → Int) (w : World)
    (hc : 0 < n → ∃ b o, A = some ⟨b, o, none⟩ ∧ ∀ j, j < n → w.cell? ⟨b, o + j * 4, none⟩ = some (.int .i64 (R j)) ∧ w.cell? ⟨b, o + j * 4 + 1, none⟩ = some (.int .i64 (O j)) ∧ w.cell? ⟨b, o + j * 4 + 2, none⟩ = some (.int .u32 (V j)) ∧ w.cell? ⟨b, o + j * 4 + 3, none⟩ = some (.int .i64 (E j))) :
    Calls Try.prog 9 #[.int .i64 l, .slice A n c] w fun e w' => e = .returned (.bool true) ∧ Upd Non w w' := by
  by_cases h : 400 < n
  · exact does_long l A n c h w
  · by_cases h2 : l < 1 ∨ 16 < l
    · exact does_bad l A n c (by omega) h2 w
    · obtain ⟨L, rfl⟩ := Int.eq_ofNat_of_zero_le (show 0 ≤ l by omega)
      exact does_some L A n c R O V E (by omega) (by omega) (by omega) w hc

set_option maxRecDepth 100000 in
theorem pipeDoes_lifted (os : Os) (started : os.Started) (H : Type) (enc : TypeId × Value → H) :
    ReturnsInHanded {} Try.checked os 9 .any (Rows.pipeDoesSpec.pre6 enc Try.prog Try.f9 Rows.pipeDoesRow.domain false) (Rows.pipeDoesSpec.post enc Try.prog Try.f9 false true false false) := by
  refine returnsInHanded_of_change (C := Try.checked) Try.own started (by kernel_rfl) Try.func9
    (ChangeSpec.witness6 (enc := enc) (C := Try.checked) false ⟨#[], #[.int .i64 0, .slice none 0 0], []⟩ 8 (by kernel_rfl) (by kernel_rfl) (by kernel_rfl) (by kernel_rfl)) ?_
  intro W base args ds gs before hval0 hW hcnd _
  have hval : ∀ (j : Nat) t v, Try.f9.params[j]? = some t → args[j]? = some v → Value.okWide Try.prog W .any base t v := hval0
  have hW' := hW
  obtain ⟨p, q, hA0, hV, rfl, hfz, hnd⟩ := hW
  have hA : DataW.TrodAll enc Try.prog W 0 (fun _ => true) true Try.f9.params.toList args.toList ds p := hA0
  rw [Try.params9] at hA hval
  obtain ⟨v0, v1, d0, d1, p0, p1, rfl, rfl, rfl, h0, h1⟩ := trodAll_two hA
  obtain ⟨rfl, rfl⟩ := trodVars_none hV
  obtain ⟨l, rfl, e0, _, w0⟩ := open_int Try.underlying3 (hval 0 3 v0 rfl rfl) h0
  obtain ⟨A, n, c, rfl⟩ := okWide_slice Try.underlying55 (hval 1 55 v1 rfl rfl)
  clear hA0 hval0
  obtain ⟨R, O, V, E, hc⟩ : ∃ R O V E : Nat → Int, 0 < n → ∃ b o, A = some ⟨b, o, none⟩ ∧ ∀ j, j < n → W.cell? ⟨b, o + j * 4, none⟩ = some (.int .i64 (R j)) ∧ W.cell? ⟨b, o + j * 4 + 1, none⟩ = some (.int .i64 (O j)) ∧ W.cell? ⟨b, o + j * 4 + 2, none⟩ = some (.int .u32 (V j)) ∧ W.cell? ⟨b, o + j * 4 + 3, none⟩ = some (.int .i64 (E j)) := by
    obtain ⟨fuel, hf⟩ := h1
    obtain ⟨A', n', c', R, O, V, E, hcs, hh⟩ := open_deeds hf
    simp [Value.cells] at hcs
    obtain ⟨rfl, rfl, rfl⟩ := hcs
    exact ⟨R, O, V, E, hh⟩
  refine (does_law l A n c R O V E W hc).mono fun e W' ⟨he, hU⟩ => ?_
  subst he
  exact ⟨_, rfl, law_post Try.laidOut rfl hW' rfl rfl Try.underlying4 (by rw [Try.params9]; decide +kernel) hU⟩

theorem PipeDoes_holds : Rows.PipeDoesSaid :=
  OpenClaim.holds_of_wide 9 Try.f9 rfl rfl rfl rfl rfl rfl rfl ⟨rfl, rfl, rfl, rfl, rfl⟩ rfl rfl rfl rfl rfl (by kernel_rfl) Try.func9 (by kernel_rfl)
    (of_decide_eq_true (by kernel_rfl)) (by unfold Func.isWrapper; first | (rw [if_pos (by decide +kernel)]; kernel_rfl) | (rw [if_neg (by decide +kernel)]; exact ⟨rfl, rfl⟩))
    (fun os started H enc _ => pipeDoes_lifted os started H enc)
end Go.Proofs.Ytnmbkhofikbcjaa
#print axioms Go.Proofs.Ytnmbkhofikbcjaa.PipeDoes_holds
