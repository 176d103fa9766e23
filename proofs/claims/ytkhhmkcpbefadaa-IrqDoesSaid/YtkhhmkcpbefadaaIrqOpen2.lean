/- What the boards laws' rows share: devices and deeds, opened. No condition. -/
import Derived.Test.YtkhhmkcpbefadaaIrqOpen
import Derived.Test.YtkhhmkcpbefadaaIrqArgs
import Derived.SizedLaws
namespace Go.Proofs.Ytkhhmkcpbefadaa
open Go.ChangeShapes Go.WideShapes Go.ChangeAt Go.RowKit Go.Deep Go.Joins

theorem Try.cells31 : Try.prog.cellsOf 31 = 5 := by kernel_rfl
theorem Try.cells45 : Try.prog.cellsOf 45 = 4 := by kernel_rfl
theorem Try.cells28 : Try.prog.cellsOf 28 = 1 := by kernel_rfl
theorem Try.cells29 : Try.prog.cellsOf 29 = 1 := by kernel_rfl
theorem Try.cells22 : Try.prog.cellsOf 22 = 1 := by kernel_rfl
theorem Try.bytes31 : Try.prog.bytesOf 31 = 40 := by kernel_rfl
theorem Try.bytes45 : Try.prog.bytesOf 45 = 48 := by kernel_rfl
theorem Try.bytes4 : Try.prog.bytesOf 4 = 1 := by kernel_rfl
theorem weightsAll_mem {H : Type} {P : Program} {e : TypeId} : ∀ {ds : List (DataW H)} {d : DataW H}, d ∈ ds → ∀ n ∈ d.weights P e, n ∈ DataW.weightsAll P e ds
  | d0 :: ds, d, hd, n, hn => by
    simp only [DataW.weightsAll, List.mem_append]
    rcases List.mem_cons.1 hd with rfl | h
    · exact Or.inl hn
    · exact Or.inr (weightsAll_mem h n hn)
/-- A struct's field of one cell. -/
theorem trod_field {H : Type} {enc : TypeId × Value → H} {P : Program} {w : World} {base : Nat} {spare : Nat → Bool} {held : Bool} {n : Nat} {fs : Array Field} {cs : List Value} {xs : List (DataW H × List MemPlace)} (hl : xs.length = fs.size)
    (hf : ∀ (i : Nat) (f : Field), fs[i]? = some f → DataW.trod enc P w base spare held n f.type ((cs.drop f.offset).take (P.cellsOf f.type)) = xs[i]?) (i : Nat) (f : Field) (hi : fs[i]? = some f) (h1 : P.cellsOf f.type = 1) (v : Value) (hv : cs[f.offset]? = some v) :
    ∃ y, xs[i]? = some y ∧ DataW.trod enc P w base spare held n f.type [v] = some y := by
  have hlt : i < xs.length := by rw [hl]; exact (Array.getElem?_eq_some_iff.1 hi).1
  refine ⟨_, List.getElem?_eq_getElem hlt, ?_⟩
  have h := hf i f hi
  rw [h1, List.getElem?_eq_getElem hlt] at h
  rw [← h]
  congr 1
  have hol : f.offset < cs.length := (List.getElem?_eq_some_iff.1 hv).1
  rw [List.drop_eq_getElem_cons hol]
  have := (List.getElem?_eq_some_iff.1 hv).2
  rw [this]; rfl
theorem open_dev {H : Type} {enc : TypeId × Value → H} {w : World} {base : Nat} {spare : Nat → Bool} {held : Bool} {fuel : Nat} {cs : List Value} {x : DataW H × List MemPlace} (hl : cs.length = 5) (h : DataW.trod enc Try.prog w base spare held fuel 31 cs = some x) :
    ∃ q : Int × Int × Int × Int × Int, cs = [.int .i64 q.1, .int .u32 q.2.1, .int .i64 q.2.2.1, .int .i64 q.2.2.2.1, .int .i64 q.2.2.2.2] := by
  match cs, hl with
  | [c0, c1, c2, c3, c4], _ =>
    obtain ⟨xs, n, _, _, _, hyl, hf⟩ := DataW.trod_struct Try.underlying31 h
    obtain ⟨_, _, g0⟩ := trod_field hyl hf 0 _ rfl Try.cells28 c0 rfl
    obtain ⟨_, _, g1⟩ := trod_field hyl hf 1 _ rfl Try.cells29 c1 rfl
    obtain ⟨_, _, g2⟩ := trod_field hyl hf 2 _ rfl Try.cells3 c2 rfl
    obtain ⟨_, _, g3⟩ := trod_field hyl hf 3 _ rfl Try.cells3 c3 rfl
    obtain ⟨_, _, g4⟩ := trod_field hyl hf 4 _ rfl Try.cells3 c4 rfl
    obtain ⟨a0, h0, _, _⟩ := DataW.trod_int Try.underlying28 g0
    obtain ⟨a1, h1, _, _⟩ := DataW.trod_int Try.underlying29 g1
    obtain ⟨a2, h2, _, _⟩ := DataW.trod_int Try.underlying3 g2
    obtain ⟨a3, h3, _, _⟩ := DataW.trod_int Try.underlying3 g3
    obtain ⟨a4, h4, _, _⟩ := DataW.trod_int Try.underlying3 g4
    simp at h0 h1 h2 h3 h4
    subst h0 h1 h2 h3 h4
    exact ⟨(a0, a1, a2, a3, a4), rfl⟩
theorem open_devs {H : Type} {enc : TypeId × Value → H} {W : World} {A : Option Addr} {n c : Nat} {d : DataW H} {ps : List MemPlace} {ts : List TypeId} {ds : List (DataW H)} {j : Nat} (hsz : (DataW.weightsEach Try.prog ts ds).all (· ≤ reachBytes) = true) (ht : ts[j]? = some 33) (hd : ds[j]? = some d)
    (h : DataW.Trod enc Try.prog W 0 (fun _ => true) true 33 (.slice A n c) d ps) : n ≤ 2 ^ 48 ∧ ∃ O N : Nat → Int, DevsAt W A n O N := by
  obtain ⟨fuel, hf⟩ := h
  rcases open_slice Try.underlying33 hf with ⟨hcs, _⟩ | ⟨a, len, cap, m, k, D, Pl, hcs, hb, hl, hm, hmm, hx, hi⟩
  · simp [Value.cells] at hcs
    exact ⟨by omega, fun _ => 0, fun _ => 0, fun hn => by omega⟩
  · simp [Value.cells] at hcs
    obtain ⟨rfl, rfl, rfl⟩ := hcs
    simp only [Prod.mk.injEq] at hx
    have hw := of_decide_eq_true (List.all_eq_true.1 hsz _ (DataW.weights_mem_each ht hd _ (by rw [hx.1]; simp only [DataW.weights, Try.underlying33]; exact List.mem_cons_self)))
    rw [Try.bytes31, List.length_map, List.length_range] at hw
    refine ⟨by unfold reachBytes at hw; omega, ?_⟩
    have key : ∀ i, i < n → ∃ q : Int × Int × Int × Int × Int, W.cell? (a.add (i * 5)) = some (.int .i64 q.1) ∧ W.cell? (a.add (i * 5 + 1)) = some (.int .u32 q.2.1) ∧ W.cell? (a.add (i * 5 + 2)) = some (.int .i64 q.2.2.1) ∧ W.cell? (a.add (i * 5 + 3)) = some (.int .i64 q.2.2.2.1) ∧ W.cell? (a.add (i * 5 + 4)) = some (.int .i64 q.2.2.2.2) := by
      intro i hil
      obtain ⟨cs', hc, ht'⟩ := hi i (by rw [hmm]; split <;> omega)
      rw [Try.cells31] at hc
      obtain ⟨_, hcl, hat⟩ := World.cells?_some hc
      obtain ⟨q, rfl⟩ := open_dev hcl ht'
      refine ⟨q, ?_, ?_, ?_, ?_, ?_⟩
      · have := hat 0 (by omega)
        rw [Go.Deep.add_add] at this
        exact this
      · rw [← Go.Deep.add_add]; exact hat 1 (by omega)
      · rw [← Go.Deep.add_add]; exact hat 2 (by omega)
      · rw [← Go.Deep.add_add]; exact hat 3 (by omega)
      · rw [← Go.Deep.add_add]; exact hat 4 (by omega)
    obtain ⟨Q, hQ⟩ := choose_lt (α := Int × Int × Int × Int × Int) key
    refine ⟨fun i => (Q i).2.2.2.1, fun i => (Q i).2.2.2.2, fun hn => ?_⟩
    obtain ⟨b, o, rfl⟩ := addr_form (by simpa using (hQ 0 hn).1)
    refine ⟨b, o, rfl, fun j hj => ?_⟩
    have := hQ j hj
    rw [addr_add, addr_add, addr_add, addr_add, addr_add] at this
    exact ⟨_, _, _, this.1, this.2.1, this.2.2.1, this.2.2.2.1, this.2.2.2.2⟩
/-- A row of levels within a deed. -/
theorem open_lv {H : Type} {enc : TypeId × Value → H} {W : World} {fuel : Nat} {v : Value} {y : DataW H × List MemPlace} (h : DataW.trod enc Try.prog W 0 (fun _ => true) true fuel 22 [v] = some y) :
    ∃ (A : Option Addr) (n c : Nat) (V : Nat → Bool), v = .slice A n c ∧ BoolsAt W A n V ∧ (n = 0 ∨ ∃ z, n ≤ z ∧ z ∈ y.1.weights Try.prog 22) := by
  rcases open_slice Try.underlying22 h with ⟨hcs, _⟩ | ⟨a, len, cap, m, k, D, Pl, hcs, hb, hl, hm, hmm, hx, hi⟩
  · simp at hcs
    exact ⟨none, 0, 0, fun _ => false, hcs, fun hn => by omega, .inl rfl⟩
  · simp at hcs
    have key : ∀ i, i < len → ∃ q : Bool, W.cell? (a.add i) = some (.bool q) := by
      intro i hil
      obtain ⟨cs', hc, ht'⟩ := hi i (by rw [hmm]; split <;> omega)
      rw [Try.cells4] at hc
      obtain ⟨_, hcl, hat⟩ := World.cells?_some hc
      obtain ⟨q, rfl, _⟩ := DataW.trod_bool Try.underlying4 ht'
      refine ⟨q, ?_⟩
      have := hat 0 (by omega)
      rw [Go.Deep.add_add, Nat.mul_one] at this
      exact this
    obtain ⟨Q, hQ⟩ := choose_lt (α := Bool) key
    refine ⟨some a, len, cap, Q, hcs, fun hn => ?_, .inr ⟨_, ?_, by rw [hx]; simp only [DataW.weights, Try.underlying22]; exact List.mem_cons_self⟩⟩
    · obtain ⟨b, o, rfl⟩ := addr_form (hQ 0 hn)
      exact ⟨b, o, rfl, fun j hj => by rw [← addr_add]; exact hQ j hj⟩
    · rw [Try.bytes4, List.length_map, List.length_range]; omega
theorem open_deed {H : Type} {enc : TypeId × Value → H} {W : World} {fuel : Nat} {cs : List Value} {x : DataW H × List MemPlace} (hl : cs.length = 4) (h : DataW.trod enc Try.prog W 0 (fun _ => true) true fuel 45 cs = some x) :
    ∃ q : (Int × Int × Int) × (Option Addr × Nat × Nat) × (Nat → Bool), cs = [.int .i64 q.1.1, .int .i64 q.1.2.1, .int .i64 q.1.2.2, .slice q.2.1.1 q.2.1.2.1 q.2.1.2.2] ∧ BoolsAt W q.2.1.1 q.2.1.2.1 q.2.2 ∧ (q.2.1.2.1 = 0 ∨ ∃ z, q.2.1.2.1 ≤ z ∧ z ∈ x.1.weights Try.prog 45) := by
  match cs, hl with
  | [c0, c1, c2, c3], _ =>
    obtain ⟨xs, n, _, hx, _, hyl, hf⟩ := DataW.trod_struct Try.underlying45 h
    obtain ⟨_, _, g0⟩ := trod_field hyl hf 0 _ rfl Try.cells3 c0 rfl
    obtain ⟨_, _, g1⟩ := trod_field hyl hf 1 _ rfl Try.cells3 c1 rfl
    obtain ⟨_, _, g2⟩ := trod_field hyl hf 2 _ rfl Try.cells3 c2 rfl
    obtain ⟨y, hy, g3⟩ := trod_field hyl hf 3 _ rfl Try.cells22 c3 rfl
    obtain ⟨a0, h0, _, _⟩ := DataW.trod_int Try.underlying3 g0
    obtain ⟨a1, h1, _, _⟩ := DataW.trod_int Try.underlying3 g1
    obtain ⟨a2, h2, _, _⟩ := DataW.trod_int Try.underlying3 g2
    obtain ⟨A, m, c, V, rfl, hb, hz⟩ := open_lv g3
    simp at h0 h1 h2
    subst h0 h1 h2
    refine ⟨((a0, a1, a2), (A, m, c), V), rfl, hb, ?_⟩
    rcases hz with hz | ⟨z, hz1, hz2⟩
    · exact .inl hz
    · refine .inr ⟨z, hz1, ?_⟩
      rw [hx]
      simp only [DataW.weights, Try.underlying45]
      exact DataW.weights_mem_each (j := 3) (t := 22) (d := y.1) rfl (by rw [List.getElem?_map, hy]; rfl) z hz2
theorem open_deeds {H : Type} {enc : TypeId × Value → H} {W : World} {A : Option Addr} {n c : Nat} {d : DataW H} {ps : List MemPlace} {ts : List TypeId} {ds : List (DataW H)} {j : Nat} (hsz : (DataW.weightsEach Try.prog ts ds).all (· ≤ reachBytes) = true) (ht : ts[j]? = some 42) (hd : ds[j]? = some d)
    (h : DataW.Trod enc Try.prog W 0 (fun _ => true) true 42 (.slice A n c) d ps) : ∃ D : Deeds, D.m = n ∧ DeedsAt W A D := by
  obtain ⟨fuel, hf⟩ := h
  rcases open_slice Try.underlying42 hf with ⟨hcs, _⟩ | ⟨a, len, cap, m, k, D, Pl, hcs, hb, hl, hm, hmm, hx, hi⟩
  · simp [Value.cells] at hcs
    obtain ⟨rfl, rfl, rfl⟩ := hcs
    exact ⟨⟨0, fun _ => 0, fun _ => 0, fun _ => 0, fun _ => none, fun _ => 0, fun _ => 0, fun _ _ => false⟩, rfl, fun hn => absurd hn (Nat.lt_irrefl 0), fun i hi => absurd hi (Nat.not_lt_zero i), Nat.zero_le _, fun i hi => absurd hi (Nat.not_lt_zero i)⟩
  · simp [Value.cells] at hcs
    obtain ⟨rfl, rfl, rfl⟩ := hcs
    simp only [Prod.mk.injEq] at hx
    have hw := of_decide_eq_true (List.all_eq_true.1 hsz _ (DataW.weights_mem_each ht hd _ (by rw [hx.1]; simp only [DataW.weights, Try.underlying42]; exact List.mem_cons_self)))
    rw [Try.bytes45, List.length_map, List.length_range] at hw
    have hn48 : n ≤ 2 ^ 48 := by unfold reachBytes at hw; omega
    have key : ∀ i, i < n → ∃ q : (Int × Int × Int) × (Option Addr × Nat × Nat) × (Nat → Bool), (W.cell? (a.add (i * 4)) = some (.int .i64 q.1.1) ∧ W.cell? (a.add (i * 4 + 1)) = some (.int .i64 q.1.2.1) ∧ W.cell? (a.add (i * 4 + 2)) = some (.int .i64 q.1.2.2) ∧ W.cell? (a.add (i * 4 + 3)) = some (.slice q.2.1.1 q.2.1.2.1 q.2.1.2.2)) ∧ BoolsAt W q.2.1.1 q.2.1.2.1 q.2.2 ∧ q.2.1.2.1 ≤ 2 ^ 48 := by
      intro i hil
      obtain ⟨cs', hc, ht'⟩ := hi i (by rw [hmm]; split <;> omega)
      rw [Try.cells45] at hc
      obtain ⟨_, hcl, hat⟩ := World.cells?_some hc
      obtain ⟨q, rfl, hbq, hzq⟩ := open_deed hcl ht'
      refine ⟨q, ⟨?_, ?_, ?_, ?_⟩, hbq, ?_⟩
      · have := hat 0 (by omega)
        rw [Go.Deep.add_add] at this
        exact this
      · rw [← Go.Deep.add_add]; exact hat 1 (by omega)
      · rw [← Go.Deep.add_add]; exact hat 2 (by omega)
      · rw [← Go.Deep.add_add]; exact hat 3 (by omega)
      · rcases hzq with hzq | ⟨z, hz1, hz2⟩
        · omega
        · have hmem : z ∈ d.weights Try.prog 42 := by
            rw [hx.1]
            simp only [DataW.weights, Try.underlying42, List.mem_cons, List.mem_append]
            exact .inr (.inl (weightsAll_mem (List.mem_map.2 ⟨i, List.mem_range.2 hil, rfl⟩) z hz2))
          have := of_decide_eq_true (List.all_eq_true.1 hsz _ (DataW.weights_mem_each ht hd _ hmem))
          unfold reachBytes at this
          omega
    obtain ⟨Q, hQ⟩ := choose_lt (α := (Int × Int × Int) × (Option Addr × Nat × Nat) × (Nat → Bool)) key
    refine ⟨⟨n, fun i => (Q i).1.1, fun i => (Q i).1.2.1, fun i => (Q i).1.2.2, fun i => (Q i).2.1.1, fun i => (Q i).2.1.2.1, fun i => (Q i).2.1.2.2, fun i => (Q i).2.2⟩, rfl, fun hn => ?_, fun i hi => (hQ i hi).2.1, hn48, fun i hi => (hQ i hi).2.2⟩
    obtain ⟨b, o, rfl⟩ := addr_form (by simpa using (hQ 0 hn).1.1)
    refine ⟨b, o, rfl, fun j hj => ?_⟩
    have := (hQ j hj).1
    rw [addr_add, addr_add, addr_add, addr_add] at this
    exact ⟨this.1, this.2.1, this.2.2.1, this.2.2.2⟩
end Go.Proofs.Ytkhhmkcpbefadaa
