/- Rows of pairs of numbers that a call itself appends to. No condition. -/
import Derived.Test.YtmblplhehbdocaaBase
import Derived.Test.YtmblplhehbdocaaProg
import Derived.Maps.AppendAt
namespace Go.Proofs.Ytmblplhehbdocaa
open Go.RowKit

/-- v is a slice of the call's own (type of its things: e) of n pairs of numbers. -/
def PRow (w : World) (base : Nat) (e : TypeId) (v : Value) (n : Nat) : Prop := ∃ xs : List Value, w.ownsRow base e 2 v n xs ∧ ∀ u ∈ xs, ∃ z : Int, u = .int .i64 z
theorem PRow.nil (w : World) (base : Nat) (e : TypeId) : PRow w base e (.slice none 0 0) 0 := ⟨[], World.ownsRow_nil _ _ _ _, fun u h => by cases h⟩
theorem PRow.slice {w : World} {base n : Nat} {e : TypeId} {v : Value} (h : PRow w base e v n) : ∃ A c, v = .slice A n c := by
  obtain ⟨xs, h1, _⟩ := h
  exact own_slice h1
theorem PRow.upd {S : Nat → Prop} {w w' : World} {base n : Nat} {e : TypeId} {v : Value} (u : Upd S w w') (h : PRow w base e v n) (hs : ∀ k, base ≤ k → ¬ S k) : PRow w' base e v n := by
  obtain ⟨xs, h1, h2⟩ := h
  exact ⟨xs, own_upd u h1 (fun k hk => hs k (own_block h1 k hk).1), h2⟩
theorem PRow.non {w w' : World} {base n : Nat} {e : TypeId} {v : Value} (u : Upd Non w w') (h : PRow w base e v n) : PRow w' base e v n := h.upd u (fun _ _ => id)
/-- What a row of numbers holds at a place. -/
def intAt (xs : List Value) (i : Nat) : Int := match xs[i]? with
  | some (.int _ z) => z
  | _ => 0
theorem PRow.cells {w : World} {base n c : Nat} {e : TypeId} {A : Option Addr} (h : PRow w base e (.slice A n c) n) : ∃ H K : Nat → Int, 0 < n → ∃ b o, A = some ⟨b, o, none⟩ ∧ ∀ j, j < n → w.cell? ⟨b, o + j * 2, none⟩ = some (.int .i64 (H j)) ∧ w.cell? ⟨b, o + j * 2 + 1, none⟩ = some (.int .i64 (K j)) := by
  obtain ⟨xs, ⟨hl, h2⟩, hx⟩ := h
  refine ⟨fun j => intAt xs (j * 2), fun j => intAt xs (j * 2 + 1), fun hn => ?_⟩
  rcases h2 with ⟨_, h0⟩ | ⟨g, cap, cur, he, _, hh, _, _, h5, h6⟩
  · omega
  · cases he
    refine ⟨g, 0, rfl, fun j hj => ?_⟩
    have key : ∀ i, i < n * 2 → w.cell? ⟨g, i, none⟩ = some (.int .i64 (intAt xs i)) := by
      intro i hi
      have hxl : i < xs.length := by omega
      obtain ⟨z, hz⟩ := hx _ (List.getElem_mem hxl)
      have hxi : xs[i]? = some (.int .i64 z) := by rw [List.getElem?_eq_getElem hxl, hz]
      rw [cell_of_row w g i cur e (0, 0) hh]
      have h7 : (cur.toList.take (n * 2))[i]? = some (.int .i64 z) := by rw [h6]; exact hxi
      rw [List.getElem?_take, if_pos hi] at h7
      have : intAt xs i = z := by unfold intAt; rw [hxi]
      rw [this]
      simpa using h7
    rw [Nat.zero_add]
    exact ⟨key _ (by omega), key _ (by omega)⟩
section
variable {P : Program} {ops : Array Oper} {rest : List Oper} {o : Oper} {a : Act} {Q : Exit → Act → World → Prop} {W : World}
theorem wpList_pappend (hgd : o.guard = none) (s x : Operand) (t e : TypeId) (ho : o.op = .call { callee := .builtin .append, args := #[s, x], argTypes := #[t, t] })
    (ht : P.underlying t = some (.slice e)) (hinfo : (P.info? e).map (fun i => (i.zero, i.size, i.bytes)) = some (some (.agg #[.int .i64 0, .int .i64 0]), 2, 16))
    {base : Nat} {v : Value} {n : Nat} (hs : a.eval s = v) (hv : PRow W base e v n) (g : Nat) (y z : Int) (hx : a.eval x = .slice (some ⟨g, 0, none⟩) 1 1) (hb : Blk W g #[.int .i64 y, .int .i64 z] e) (hn : n ≤ 100000) (hbase : base ≤ W.heap.size)
    (h : ∀ v' w', PRow w' base e v' (n + 1) → Upd (fun i => base ≤ i) W w' → wpList P ops Q rest (a.put o.dst v') w') : wpList P ops Q (o :: rest) a W := by
  refine wpList_plain hgd fun K hK => ?_
  obtain ⟨i, hi, hz0, hz1, hz2⟩ := info_parts hinfo
  obtain ⟨xs, hown, hints⟩ := hv
  obtain ⟨v', w', hr, h2, h3, h4, h5⟩ := run_append_own_at (P := P) W base t o.type e i _ 2 16 ht hi hz0 hz1 hz2 rfl (by decide) v n _ hown ⟨g, 0, none⟩ 1 1 [.int .i64 y, .int .i64 z] rfl
    (fun j u hj => blk_news hb j u (by simpa using hj)) (by intro u hu; simp at hu; rcases hu with rfl | rfl <;> rfl) (by unfold maxLen; omega) (by omega) hbase
  have hU : Upd (fun i => base ≤ i) W w' := ⟨h3.os, h3.tape, h3.output, h3.size, fun k hk hs => h3.block k hk (fun e => hs (own_block hown k e.symm).1)⟩
  unfold Oper.wp execOp
  simp only [ho, resolve, invoke, builtin, Sem.run_bind, Sem.run_pure, Result.andThen_ok, List.map_toArray, List.map_cons, List.map_nil, hs, hx, hr]
  refine hK _ _ (h v' w' ⟨_, h2, ?_⟩ hU)
  intro u hu
  rcases List.mem_append.1 hu with hu | hu
  · exact hints u hu
  · simp at hu
    rcases hu with rfl | rfl
    · exact ⟨y, rfl⟩
    · exact ⟨z, rfl⟩
end
end Go.Proofs.Ytmblplhehbdocaa
