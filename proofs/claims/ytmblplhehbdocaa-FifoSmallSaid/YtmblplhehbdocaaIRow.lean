/- Rows of numbers that a call itself appends to: which block they lie in, and append, outside and within a round. No condition. -/
import Derived.Test.YtmblplhehbdocaaBase
import Derived.Test.YtmblplhehbdocaaProg
import Derived.Maps.AppendAt
import Derived.OwnWalkIn
namespace Go.Proofs.Ytmblplhehbdocaa
open Go.RowKit

theorem Try.info3' : (Try.prog.info? 3).map (fun i => (i.zero, i.size, i.bytes)) = some (some (.int .i64 0), 1, 8) := by kernel_rfl
/-- v is a slice of the call's own that holds xs; if it is not nil it lies in block r. -/
structure IRow (w : World) (base : Nat) (v : Value) (xs : List Int) (r : Nat) : Prop where
  own : w.ownsRow base 3 1 v xs.length (xs.map (Value.int .i64))
  blk : ∀ k, v.ownBlock = some k → k = r
  lo : base ≤ r
  lt : r < w.heap.size
theorem IRow.nil (w : World) {base r : Nat} (h : base ≤ r) (h2 : r < w.heap.size) : IRow w base (.slice none 0 0) [] r := ⟨World.ownsRow_nil _ _ _ _, (fun k hk => by cases hk), h, h2⟩
theorem IRow.upd {S : Nat → Prop} {w w' : World} {base r : Nat} {v : Value} {xs : List Int} (u : Upd S w w') (h : IRow w base v xs r) (hs : ¬ S r) : IRow w' base v xs r :=
  ⟨own_upd u h.own (fun k hk => by rw [h.blk k hk]; exact hs), h.blk, h.lo, Nat.lt_of_lt_of_le h.lt u.size⟩
theorem IRow.non {w w' : World} {base r : Nat} {v : Value} {xs : List Int} (u : Upd Non w w') (h : IRow w base v xs r) : IRow w' base v xs r := h.upd u id
theorem IRow.slice {w : World} {base r : Nat} {v : Value} {xs : List Int} (h : IRow w base v xs r) : ∃ A c, v = .slice A xs.length c := own_slice h.own
theorem IRow.cells {w : World} {base r : Nat} {v : Value} {xs : List Int} (h : IRow w base v xs r) : ∃ A c, v = .slice A xs.length c ∧ (0 < xs.length → ∃ b o, A = some ⟨b, o, none⟩ ∧ b < w.heap.size ∧ ∀ j (u : Int), xs[j]? = some u → w.cell? ⟨b, o + j, none⟩ = some (.int .i64 u)) := by
  obtain ⟨h1, h2⟩ := h.own
  rcases h2 with ⟨rfl, h0⟩ | ⟨g, cap, cur, rfl, _, hh, h3, h4, h5, h6⟩
  · exact ⟨none, 0, by rw [h0], fun hn => by omega⟩
  · refine ⟨_, cap, rfl, fun hn => ⟨g, 0, rfl, (Array.getElem?_eq_some_iff.1 hh).1, fun j u hj => ?_⟩⟩
    have hjl : j < xs.length := (List.getElem?_eq_some_iff.1 hj).1
    rw [Nat.zero_add, cell_of_row w g j cur 3 (0, 0) hh]
    have : (cur.toList.take (xs.length * 1))[j]? = some (.int .i64 u) := by rw [h6, List.getElem?_map, hj]; rfl
    rw [List.getElem?_take] at this
    rw [if_pos (by omega)] at this
    simpa using this
theorem IRow.at {w : World} {base r c : Nat} {A : Option Addr} {xs : List Int} (h : IRow w base (.slice A xs.length c) xs r) : 0 < xs.length → ∃ b o, A = some ⟨b, o, none⟩ ∧ b < w.heap.size ∧ ∀ j, j < xs.length → w.cell? ⟨b, o + j, none⟩ = some (.int .i64 (xs.getD j 0)) := by
  intro hn
  obtain ⟨A', c', he, hc⟩ := h.cells
  simp only [Value.slice.injEq, true_and] at he
  obtain ⟨rfl, rfl⟩ := he
  obtain ⟨b, o, rfl, hb, hh⟩ := hc hn
  exact ⟨b, o, rfl, hb, fun j hj => hh j _ (by rw [List.getD_eq_getElem?_getD, List.getElem?_eq_getElem hj]; rfl)⟩
section
variable {P : Program} {ops : Array Oper} {rest : List Oper} {o : Oper} {a : Act} {Q : Exit → Act → World → Prop} {W : World}
theorem iappend_run (t ty : TypeId) (ht : P.underlying t = some (.slice 3)) (hinfo : (P.info? 3).map (fun i => (i.zero, i.size, i.bytes)) = some (some (.int .i64 0), 1, 8))
    {base r : Nat} {v : Value} {xs : List Int} (hv : IRow W base v xs r) (g : Nat) (y : Int) (hb : Blk W g #[.int .i64 y] 3) (hn : xs.length ≤ 100000) (hbase : base ≤ W.heap.size) :
    ∃ v' w' r', (Builtin.append_ #[t, t] ty #[v, .slice (some ⟨g, 0, none⟩) 1 1]).run P W = .ok v' w' ∧ ((r' = r ∧ v ≠ .slice none 0 0) ∨ W.heap.size ≤ r') ∧ IRow w' base v' (xs ++ [y]) r' ∧ Upd (fun i => i = r ∧ v ≠ .slice none 0 0) W w' := by
  obtain ⟨i, hi, hz0, hz1, hz2⟩ := info_parts hinfo
  obtain ⟨v', w', hr, h2, h3, h4, h5⟩ := run_append_own_at (P := P) W base t ty 3 i _ 1 8 ht hi hz0 hz1 hz2 rfl (by decide) v xs.length _ hv.own ⟨g, 0, none⟩ 1 1 [.int .i64 y] rfl
    (fun j u hj => blk_news hb j u (by simpa using hj)) (by simp [Value.oneCell']) (by unfold maxLen; omega) (by omega) hbase
  have hU : Upd (fun i => i = r ∧ v ≠ .slice none 0 0) W w' := ⟨h3.os, h3.tape, h3.output, h3.size, fun k hk hs => h3.block k hk (fun e => hs ⟨hv.blk k e.symm, by rintro rfl; cases e⟩)⟩
  have hown : w'.ownsRow base 3 1 v' (xs ++ [y]).length ((xs ++ [y]).map (Value.int .i64)) := by
    rw [List.length_append, List.map_append]; exact h2
  rcases h5 with h5 | h5
  · refine ⟨v', w', r, hr, .inl ⟨rfl, ?_⟩, ⟨hown, fun k hk => hv.blk k (h5 ▸ hk), hv.lo, Nat.lt_of_lt_of_le hv.lt hU.size⟩, hU⟩
    rintro rfl
    obtain ⟨k, c, rfl, _, _⟩ := own_form hown (by simp)
    cases h5
  · exact ⟨v', w', W.heap.size, hr, .inr (Nat.le_refl _), ⟨hown, (fun k hk => by rw [h5] at hk; exact (Option.some.inj hk).symm), hbase, (own_block h2 _ h5).2⟩, hU⟩
/-- append(v, y). -/
theorem wpList_iappend (hgd : o.guard = none) (s x : Operand) (t : TypeId) (ho : o.op = .call { callee := .builtin .append, args := #[s, x], argTypes := #[t, t] })
    (ht : P.underlying t = some (.slice 3)) (hinfo : (P.info? 3).map (fun i => (i.zero, i.size, i.bytes)) = some (some (.int .i64 0), 1, 8))
    {base r : Nat} {v : Value} {xs : List Int} (hs : a.eval s = v) (hv : IRow W base v xs r) (g : Nat) (y : Int) (hx : a.eval x = .slice (some ⟨g, 0, none⟩) 1 1) (hb : Blk W g #[.int .i64 y] 3) (hn : xs.length ≤ 100000) (hbase : base ≤ W.heap.size)
    (h : ∀ v' w' r', (r' = r ∨ W.heap.size ≤ r') → IRow w' base v' (xs ++ [y]) r' → Upd (fun i => i = r) W w' → wpList P ops Q rest (a.put o.dst v') w') : wpList P ops Q (o :: rest) a W := by
  refine wpList_plain hgd fun K hK => ?_
  obtain ⟨v', w', r', hr, h1, h2, h3⟩ := iappend_run (P := P) t o.type ht hinfo hv g y hb hn hbase
  unfold Oper.wp execOp
  simp only [ho, resolve, invoke, builtin, Sem.run_bind, Sem.run_pure, Result.andThen_ok, List.map_toArray, List.map_cons, List.map_nil, hs, hx, hr]
  exact hK _ _ (h v' w' r' (h1.imp (fun h => h.1) id) h2 (h3.mono fun _ _ h => h.1))
/-- The same within a round. -/
theorem wpListIn_iappend {F : Fence} {n : Nat} (hgd : o.guard = none) (s x : Operand) (t : TypeId) (ho : o.op = .call { callee := .builtin .append, args := #[s, x], argTypes := #[t, t] })
    (ht : P.underlying t = some (.slice 3)) (hinfo : (P.info? 3).map (fun i => (i.zero, i.size, i.bytes)) = some (some (.int .i64 0), 1, 8))
    {base r : Nat} {v : Value} {xs : List Int} (hs : a.eval s = v) (hv : IRow W base v xs r) (g : Nat) (y : Int) (hx : a.eval x = .slice (some ⟨g, 0, none⟩) 1 1) (hb : Blk W g #[.int .i64 y] 3) (hn : xs.length ≤ 100000) (hbase : base ≤ W.heap.size)
    (h : ∀ v' w' r', (r' = r ∨ W.heap.size ≤ r') → IRow w' base v' (xs ++ [y]) r' → Upd (fun i => i = r) W w' → wpListIn F n P ops Q rest (a.put o.dst v') w') : wpListIn F n P ops Q (o :: rest) a W := by
  refine wpListIn_plain hgd fun K hK => ?_
  obtain ⟨v', w', r', hr, h1, h2, h3⟩ := iappend_run (P := P) t o.type ht hinfo hv g y hb hn hbase
  unfold Oper.wpIn
  refine ⟨?_, ?_⟩
  · simp [Oper.about, ho, resolve, Target.leads, Sem.run_pure]
  · rw [Oper.semAt_plain F _ _ (by rw [ho]; intro c hc'; cases hc')]
    simp [execOp, ho, resolve, invoke, builtin, hs, hx, hr, Result.andThen]
    exact hK _ _ (h v' w' r' (h1.imp (fun h => h.1) id) h2 (h3.mono fun _ _ h => h.1))
end
end Go.Proofs.Ytmblplhehbdocaa
