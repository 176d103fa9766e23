/- Rows of numbers that a call appends to and cuts at their head: a slice at any offset of a block of its own. No condition. -/
import Derived.Test.YtmblplhehbdocaaIRow
import Derived.ArgAppend
namespace Go.Proofs.Ytmblplhehbdocaa
open Go.RowKit

/-- v is a slice of the call's own that holds xs; if it is not nil it lies in block r, at some offset. -/
structure ORow (w : World) (base : Nat) (v : Value) (xs : List Int) (r : Nat) : Prop where
  form : (v = .slice none 0 0 ∧ xs = []) ∨ ∃ (off cap : Nat) (cur : Array Value), v = .slice (some ⟨r, off, none⟩) xs.length cap ∧ w.heap[r]? = some (.cells cur 3 (0, 0)) ∧ xs.length ≤ cap ∧ (0 < cap → off + cap ≤ cur.size) ∧ ∀ (j : Nat) (u : Int), xs[j]? = some u → cur[off + j]? = some (.int .i64 u)
  lo : base ≤ r
  lt : r < w.heap.size
theorem ORow.nil (w : World) {base r : Nat} (h : base ≤ r) (h2 : r < w.heap.size) : ORow w base (.slice none 0 0) [] r := ⟨.inl ⟨rfl, rfl⟩, h, h2⟩
theorem ORow.upd {S : Nat → Prop} {w w' : World} {base r : Nat} {v : Value} {xs : List Int} (u : Upd S w w') (h : ORow w base v xs r) (hs : ¬ S r) : ORow w' base v xs r := by
  refine ⟨?_, h.lo, Nat.lt_of_lt_of_le h.lt u.size⟩
  rcases h.form with h1 | ⟨off, cap, cur, h1, h2, h3⟩
  · exact .inl h1
  · exact .inr ⟨off, cap, cur, h1, (u.block r h.lt hs).trans h2, h3⟩
theorem ORow.non {w w' : World} {base r : Nat} {v : Value} {xs : List Int} (u : Upd Non w w') (h : ORow w base v xs r) : ORow w' base v xs r := h.upd u id
theorem ORow.slice {w : World} {base r : Nat} {v : Value} {xs : List Int} (h : ORow w base v xs r) : ∃ A c, v = .slice A xs.length c := by
  rcases h.form with ⟨rfl, rfl⟩ | ⟨off, cap, cur, rfl, _⟩
  · exact ⟨none, 0, rfl⟩
  · exact ⟨_, cap, rfl⟩
theorem ORow.cells {w : World} {base r : Nat} {v : Value} {xs : List Int} (h : ORow w base v xs r) (hn : 0 < xs.length) : ∃ off cap, v = .slice (some ⟨r, off, none⟩) xs.length cap ∧ xs.length ≤ cap ∧ ∀ (j : Nat) (u : Int), xs[j]? = some u → w.cell? ⟨r, off + j, none⟩ = some (.int .i64 u) := by
  rcases h.form with ⟨rfl, rfl⟩ | ⟨off, cap, cur, rfl, hh, h1, h2, h3⟩
  · cases hn
  · exact ⟨off, cap, rfl, h1, fun j u hj => by rw [cell_of_row w r (off + j) cur 3 (0, 0) hh]; exact h3 j u hj⟩
theorem ORow.of_own {w : World} {base b2 k : Nat} {v : Value} {xs : List Int} (h : w.ownsRow b2 3 1 v xs.length (xs.map (Value.int .i64))) (hk : v.ownBlock = some k) (hb : base ≤ k) : ORow w base v xs k := by
  have hlt := (own_block h k hk).2
  refine ⟨?_, hb, hlt⟩
  rcases h.2 with ⟨rfl, h0⟩ | ⟨g, cap, cur, rfl, _, hh, h3, h4, h5, h6⟩
  · cases hk
  · obtain rfl : g = k := Option.some.inj hk
    refine .inr ⟨0, cap, cur, rfl, hh, h3, fun _ => by omega, fun j u hj => ?_⟩
    have hjl : j < xs.length := (List.getElem?_eq_some_iff.1 hj).1
    have : (cur.toList.take (xs.length * 1))[j]? = some (.int .i64 u) := by rw [h6, List.getElem?_map, hj]; rfl
    rw [List.getElem?_take, if_pos (by omega)] at this
    rw [Nat.zero_add]
    simpa using this
/-- The row behind its head is cut off. -/
theorem ORow.cut {w : World} {base r off cap : Nat} {x : Int} {xs : List Int} (h : ORow w base (.slice (some ⟨r, off, none⟩) (xs.length + 1) cap) (x :: xs) r) :
    ORow w base (.slice (some ⟨r, off + (if cap = 1 then 0 else 1), none⟩) xs.length (cap - 1)) xs r := by
  refine ⟨?_, h.lo, h.lt⟩
  rcases h.form with ⟨he, _⟩ | ⟨off', cap', cur, he, hh, h1, h2, h3⟩
  · cases he
  · simp only [Value.slice.injEq, Option.some.injEq, Addr.mk.injEq, true_and, and_true] at he
    obtain ⟨rfl, _, rfl⟩ := he
    rw [List.length_cons] at h1
    refine .inr ⟨_, _, cur, rfl, hh, by omega, fun hc => ?_, fun j u hj => ?_⟩
    · have := h2 (by omega)
      split <;> omega
    · have hjl : j < xs.length := (List.getElem?_eq_some_iff.1 hj).1
      rw [if_neg (by omega), show off + 1 + j = off + (j + 1) by omega]
      exact h3 (j + 1) u (by simpa using hj)
section
variable {P : Program} {W : World}
theorem oappend_run (t ty : TypeId) (ht : P.underlying t = some (.slice 3)) (hinfo : (P.info? 3).map (fun i => (i.zero, i.size, i.bytes)) = some (some (.int .i64 0), 1, 8))
    {base r : Nat} {v : Value} {xs : List Int} (hv : ORow W base v xs r) (g : Nat) (y : Int) (hb : Blk W g #[.int .i64 y] 3) (hn : xs.length ≤ 100000) (hbase : base ≤ W.heap.size) :
    ∃ v' w' r', (Builtin.append_ #[t, t] ty #[v, .slice (some ⟨g, 0, none⟩) 1 1]).run P W = .ok v' w' ∧ ((r' = r ∧ v ≠ .slice none 0 0) ∨ W.heap.size ≤ r') ∧ ORow w' base v' (xs ++ [y]) r' ∧ Upd (fun i => i = r ∧ v ≠ .slice none 0 0) W w' := by
  obtain ⟨i, hi, hz0, hz1, hz2⟩ := info_parts hinfo
  have hnews : ∀ (j : Nat) (u : Value), [Value.int .i64 y][j]? = some u → W.cell? ((⟨g, 0, none⟩ : Addr).add j) = some u := fun j u hj => blk_news hb j u (by simpa using hj)
  have hmap : (xs ++ [y]).map (Value.int .i64) = xs.map (Value.int .i64) ++ [.int .i64 y] := by simp
  rcases hv.form with ⟨rfl, rfl⟩ | ⟨off, cap, cur, rfl, hh, h1, h2, h3⟩
  · obtain ⟨v', w', r', hr, h1, h2, h3⟩ := iappend_run (P := P) t ty ht hinfo (IRow.nil W hv.lo hv.lt) g y hb (by simp) hbase
    obtain ⟨k, c, rfl, hk1, hk2⟩ := own_form h2.own (by simp)
    have hkr := h2.blk k rfl
    subst hkr
    exact ⟨_, w', k, hr, h1, ORow.of_own h2.own rfl hk1, h3⟩
  · by_cases hroom : xs.length + 1 ≤ cap
    · have hsz := h2 (by omega)
      have hcell : ∀ j, off + j < cur.size → W.cell? ⟨r, off + j, none⟩ = cur[off + j]? := fun j _ => cell_of_row W r (off + j) cur 3 (0, 0) hh
      have hr := run_append_room_cells (P := P) W t ty 3 i ht hi r off xs.length cap ⟨g, 0, none⟩ 1 1 [.int .i64 y] (by rw [hz1]; rfl) hnews (by simp [Value.oneCell']) hroom
        (fun j hj => by
          have hj0 : j = 0 := by simpa using hj
          subst hj0
          rw [hz1, show off + xs.length * 1 + 0 = off + xs.length by omega, hcell _ (by omega), Array.getElem?_eq_getElem (by omega)]; rfl)
        (fun j hj => frozen_of_row W r _ cur 3 hh)
      refine ⟨_, _, r, hr, .inl ⟨rfl, by intro h; cases h⟩, ⟨.inr ⟨off, cap, cur.setIfInBounds (off + xs.length) (.int .i64 y), by rw [List.length_append]; rfl, ?_, by rw [List.length_append]; exact hroom, fun hc => by rw [Array.size_setIfInBounds]; exact h2 hc, fun j u hj => ?_⟩, hv.lo, ?_⟩, ?_⟩
      · rw [hz1, Nat.mul_one]
        exact heap_setCell_same W r (off + xs.length) cur 3 _ hh
      · by_cases hjx : j < xs.length
        · rw [List.getElem?_append_left hjx] at hj
          rw [Array.getElem?_setIfInBounds_ne (by omega)]
          exact h3 j u hj
        · have hjl := (List.getElem?_eq_some_iff.1 hj).1
          rw [List.length_append, List.length_singleton] at hjl
          obtain rfl : j = xs.length := by omega
          rw [List.getElem?_append_right (Nat.le_refl _), Nat.sub_self] at hj
          have : y = u := Option.some.inj hj
          rw [this, Array.getElem?_setIfInBounds_self_of_lt (by omega)]
      · rw [hz1, Nat.mul_one]
        show r < (W.setCell _ _).heap.size
        rw [World.size_setCell]; exact hv.lt
      · rw [hz1, Nat.mul_one]
        exact (Upd.refl _ _).setCell (.inl ⟨rfl, by intro h; cases h⟩)
    · obtain ⟨v', w', hr, h4, h5⟩ := run_append_arg_grows (P := P) W t ty 3 i _ 1 8 ht hi hz0 hz1 hz2 rfl (by decide) ⟨r, off, none⟩ xs.length cap (xs.map (Value.int .i64)) (by simp)
        (fun j u hj => by
          rw [Addr.add_mid, cell_of_row W r (off + j) cur 3 (0, 0) hh]
          rw [List.getElem?_map] at hj
          obtain ⟨z, hz, rfl⟩ := Option.map_eq_some_iff.1 hj
          exact h3 j z hz)
        ⟨g, 0, none⟩ 1 1 [.int .i64 y] rfl hnews (by omega) (by unfold maxLen; omega) (by omega)
      have hown : w'.ownsRow W.heap.size 3 1 v' (xs ++ [y]).length ((xs ++ [y]).map (Value.int .i64)) := by rw [List.length_append, hmap]; exact h4
      obtain ⟨k, c, rfl, hk1, hk2⟩ := own_form hown (by simp)
      exact ⟨_, w', k, hr, .inr hk1, ORow.of_own hown rfl (Nat.le_trans hbase hk1), ⟨h5.os, h5.tape, h5.output, h5.size, fun j hj _ => h5.block j hj (by simp)⟩⟩
theorem wpList_oappend {ops : Array Oper} {rest : List Oper} {o : Oper} {a : Act} {Q : Exit → Act → World → Prop} (hgd : o.guard = none) (s x : Operand) (t : TypeId) (ho : o.op = .call { callee := .builtin .append, args := #[s, x], argTypes := #[t, t] })
    (ht : P.underlying t = some (.slice 3)) (hinfo : (P.info? 3).map (fun i => (i.zero, i.size, i.bytes)) = some (some (.int .i64 0), 1, 8))
    {base r : Nat} {v : Value} {xs : List Int} (hs : a.eval s = v) (hv : ORow W base v xs r) (g : Nat) (y : Int) (hx : a.eval x = .slice (some ⟨g, 0, none⟩) 1 1) (hb : Blk W g #[.int .i64 y] 3) (hn : xs.length ≤ 100000) (hbase : base ≤ W.heap.size)
    (h : ∀ v' w' r', ((r' = r ∧ v ≠ .slice none 0 0) ∨ W.heap.size ≤ r') → ORow w' base v' (xs ++ [y]) r' → Upd (fun i => i = r ∧ v ≠ .slice none 0 0) W w' → wpList P ops Q rest (a.put o.dst v') w') : wpList P ops Q (o :: rest) a W := by
  refine wpList_plain hgd fun K hK => ?_
  obtain ⟨v', w', r', hr, h1, h2, h3⟩ := oappend_run (P := P) t o.type ht hinfo hv g y hb hn hbase
  unfold Oper.wp execOp
  simp only [ho, resolve, invoke, builtin, Sem.run_bind, Sem.run_pure, Result.andThen_ok, List.map_toArray, List.map_cons, List.map_nil, hs, hx, hr]
  exact hK _ _ (h v' w' r' h1 h2 h3)
end
end Go.Proofs.Ytmblplhehbdocaa
