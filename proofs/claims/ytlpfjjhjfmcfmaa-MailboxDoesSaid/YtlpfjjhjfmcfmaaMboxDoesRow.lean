/- MailboxDoes: for every input the law returns true, and its arguments read as they did. No condition. -/
import Derived.Test.YtlpfjjhjfmcfmaaMboxDoesLaw
import Derived.Test.YtlpfjjhjfmcfmaaChRow
namespace Go.Proofs.Ytlpfjjhjfmcfmaa
open Go.ChangeShapes Go.WideShapes Go.ChangeAt Go.RowKit Go.Deep Go.Joins

theorem Try.cells48 : Try.prog.cellsOf 48 = 3 := by kernel_rfl
/-- A struct's field of one cell. -/
theorem trod_field {H : Type} {enc : TypeId × Value → H} {P : Program} {w : World} {base : Nat} {spare : Nat → Bool} {held : Bool} {n : Nat} {fs : Array Field} {cs : List Value} {xs : List (DataW H × List MemPlace)} (hl : xs.length = fs.size)
    (hf : ∀ (i : Nat) (f : Field), fs[i]? = some f → DataW.trod enc P w base spare held n f.type ((cs.drop f.offset).take (P.cellsOf f.type)) = xs[i]?) (i : Nat) (f : Field) (hi : fs[i]? = some f) (h1 : P.cellsOf f.type = 1) (v : Value) (hv : cs[f.offset]? = some v) :
    ∃ y, xs[i]? = some y ∧ DataW.trod enc P w base spare held n f.type [v] = some y := by
  have hlt : i < xs.length := by rw [hl]; exact (Array.getElem?_eq_some_iff.1 hi).1
  refine ⟨_, List.getElem?_eq_getElem hlt, ?_⟩
  have h := hf i f hi
  rw [h1, List.getElem?_eq_getElem hlt] at h
  rw [← h]
  congr 1
  have hol : f.offset < cs.length := (List.getElem?_eq_some_iff.1 hv).1
  rw [List.drop_eq_getElem_cons hol]
  have := (List.getElem?_eq_some_iff.1 hv).2
  rw [this]; rfl
theorem open_dm {H : Type} {enc : TypeId × Value → H} {w : World} {base : Nat} {spare : Nat → Bool} {held : Bool} {fuel : Nat} {cs : List Value} {x : DataW H × List MemPlace} (hl : cs.length = 3) (h : DataW.trod enc Try.prog w base spare held fuel 48 cs = some x) :
    ∃ q : Int × Int × Int, cs = [.int .i64 q.1, .int .i64 q.2.1, .int .u32 q.2.2] ∧ 0 ≤ q.2.2 ∧ q.2.2 < 4294967296 := by
  match cs, hl with
  | [c0, c1, c2], _ =>
    obtain ⟨xs, n, _, _, _, hyl, hf⟩ := DataW.trod_struct Try.underlying48 h
    obtain ⟨_, _, g0⟩ := trod_field hyl hf 0 _ rfl Try.cells3 c0 rfl
    obtain ⟨_, _, g1⟩ := trod_field hyl hf 1 _ rfl Try.cells3 c1 rfl
    obtain ⟨_, _, g2⟩ := trod_field hyl hf 2 _ rfl Try.cells28 c2 rfl
    obtain ⟨a0, h0, _, _⟩ := DataW.trod_int Try.underlying3 g0
    obtain ⟨a1, h1, _, _⟩ := DataW.trod_int Try.underlying3 g1
    obtain ⟨a2, h2, _, w2⟩ := DataW.trod_int Try.underlying28 g2
    simp at h0 h1 h2
    subst h0 h1 h2
    exact ⟨(a0, a1, a2), rfl, u32_ok w2⟩
theorem open_deeds {H : Type} {enc : TypeId × Value → H} {W : World} {A : Option Addr} {n c : Nat} {d : DataW H} {ps : List MemPlace}
    (h : DataW.Trod enc Try.prog W 0 (fun _ => true) true 44 (.slice A n c) d ps) : ∃ H R V : Nat → Int, DeedsM W A n H R V := by
  obtain ⟨fuel, hf⟩ := h
  rcases open_slice Try.underlying44 hf with ⟨hcs, _⟩ | ⟨a, len, cap, m, k, D, Pl, hcs, hb, hl, hm, hmm, hx, hi⟩
  · simp [Value.cells] at hcs
    obtain ⟨rfl, rfl, rfl⟩ := hcs
    exact ⟨fun _ => 0, fun _ => 0, fun _ => 0, fun hn => absurd hn (Nat.lt_irrefl 0), fun i hi => absurd hi (Nat.not_lt_zero i)⟩
  · simp [Value.cells] at hcs
    obtain ⟨rfl, rfl, rfl⟩ := hcs
    have key : ∀ i, i < n → ∃ q : Int × Int × Int, (W.cell? (a.add (i * 3)) = some (.int .i64 q.1) ∧ W.cell? (a.add (i * 3 + 1)) = some (.int .i64 q.2.1) ∧ W.cell? (a.add (i * 3 + 2)) = some (.int .u32 q.2.2)) ∧ 0 ≤ q.2.2 ∧ q.2.2 < 4294967296 := by
      intro i hil
      obtain ⟨cs', hc, ht'⟩ := hi i (by rw [hmm]; split <;> omega)
      rw [Try.cells48] at hc
      obtain ⟨_, hcl, hat⟩ := World.cells?_some hc
      obtain ⟨q, rfl, hq⟩ := open_dm hcl ht'
      refine ⟨q, ⟨?_, ?_, ?_⟩, hq⟩
      · have := hat 0 (by omega)
        rw [Go.Deep.add_add] at this
        exact this
      · rw [← Go.Deep.add_add]; exact hat 1 (by omega)
      · rw [← Go.Deep.add_add]; exact hat 2 (by omega)
    obtain ⟨Q, hQ⟩ := choose_lt (α := Int × Int × Int) key
    refine ⟨fun i => (Q i).1, fun i => (Q i).2.1, fun i => (Q i).2.2, fun hn => ?_, fun i hi => (hQ i hi).2⟩
    obtain ⟨b, o, rfl⟩ := addr_form (by simpa using (hQ 0 hn).1.1)
    refine ⟨b, o, rfl, fun j hj => ?_⟩
    have := (hQ j hj).1
    rw [addr_add, addr_add, addr_add] at this
    exact ⟨this.1, this.2.1, this.2.2⟩
set_option maxRecDepth 100000 in
theorem mailboxDoes_lifted (os : Os) (started : os.Started) (H : Type) (enc : TypeId × Value → H) :
    ReturnsInHanded {} Try.checked os 7 .any (Rows.mailboxDoesSpec.pre6 enc Try.prog Try.f7 Rows.mailboxDoesRow.domain false) (Rows.mailboxDoesSpec.post enc Try.prog Try.f7 false true false false) := by
  refine returnsInHanded_of_change (C := Try.checked) Try.own started (by kernel_rfl) Try.func7
    (ChangeSpec.witness6 (enc := enc) (C := Try.checked) false ⟨#[], #[.slice none 0 0], []⟩ 8 (by kernel_rfl) (by kernel_rfl) (by kernel_rfl) (by kernel_rfl)) ?_
  intro W base args ds gs before hval0 hW hcnd _
  have hval : ∀ (j : Nat) t v, Try.f7.params[j]? = some t → args[j]? = some v → Value.okWide Try.prog W .any base t v := hval0
  have hW' := hW
  obtain ⟨p, q, hA0, hV, rfl, hfz, hnd⟩ := hW
  have hA : DataW.TrodAll enc Try.prog W 0 (fun _ => true) true Try.f7.params.toList args.toList ds p := hA0
  rw [Try.params7] at hA hval
  obtain ⟨v0, d0, rfl, rfl, h0⟩ := trodAll_one hA
  obtain ⟨rfl, rfl⟩ := trodVars_none hV
  obtain ⟨A, n, cc, rfl⟩ := okWide_slice Try.underlying44 (hval 0 44 v0 rfl rfl)
  clear hA0 hval0
  obtain ⟨HH, RR, VV, hd⟩ := open_deeds h0
  refine (does_m A n cc HH RR VV W hd).mono fun e W' ⟨he, hU⟩ => ?_
  subst he
  exact ⟨_, rfl, law_post Try.laidOut rfl hW' rfl rfl Try.underlying4 (by rw [Try.params7]; decide +kernel) hU⟩

theorem MailboxDoes_holds : Rows.MailboxDoesSaid :=
  OpenClaim.holds_of_wide 7 Try.f7 rfl rfl rfl rfl rfl rfl rfl ⟨rfl, rfl, rfl, rfl, rfl⟩ rfl rfl rfl rfl rfl (by kernel_rfl) Try.func7 (by kernel_rfl)
    (of_decide_eq_true (by kernel_rfl)) (by unfold Func.isWrapper; first | (rw [if_pos (by decide +kernel)]; kernel_rfl) | (rw [if_neg (by decide +kernel)]; exact ⟨rfl, rfl⟩))
    (fun os started H enc _ => mailboxDoes_lifted os started H enc)
end Go.Proofs.Ytlpfjjhjfmcfmaa
#print axioms Go.Proofs.Ytlpfjjhjfmcfmaa.MailboxDoes_holds
