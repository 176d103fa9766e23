/- The board's row of wires, known exactly: its cells, and one cell turned. No condition. -/
import Derived.Test.YtkhhmkcpbefadaaIrqFns
namespace Go.Proofs.Ytkhhmkcpbefadaa
open Go.RowKit
theorem wenc_length : ∀ ws : List WR, (wenc ws).length = ws.length * 3
  | [] => rfl
  | x :: l => by rw [wenc, List.length_append, wenc_length l, List.length_cons]; show 3 + _ = _; omega
theorem wenc_append : ∀ a b : List WR, wenc (a ++ b) = wenc a ++ wenc b
  | [], _ => rfl
  | x :: l, b => by rw [List.cons_append, wenc, wenc, wenc_append l b, List.append_assoc]
theorem wenc_at : ∀ (ws : List WR) (i : Nat) (x : WR), ws[i]? = some x → (wenc ws)[i * 3]? = some (.int .i64 x.ow) ∧ (wenc ws)[i * 3 + 1]? = some (.int .i64 x.ln) ∧ (wenc ws)[i * 3 + 2]? = some (.bool x.hi)
  | [], i, x, h => by cases h
  | y :: l, 0, x, h => by cases h; exact ⟨rfl, rfl, rfl⟩
  | y :: l, i + 1, x, h => by
    have h2 := wenc_at l i x h
    have e : ∀ j, (wenc (y :: l))[(i + 1) * 3 + j]? = (wenc l)[i * 3 + j]? := fun j => by
      rw [wenc, List.getElem?_append_right (by show 3 ≤ _; omega)]
      congr 1
      show (i + 1) * 3 + j - 3 = _
      omega
    exact ⟨(e 0).trans h2.1, (e 1).trans h2.2.1, (e 2).trans h2.2.2⟩
theorem wenc_high : ∀ (ws : List WR) (i : Nat) (x : WR) (h : Bool), ws[i]? = some x → (wenc ws).set (i * 3 + 2) (.bool h) = wenc (ws.set i { x with hi := h })
  | [], i, x, h, e => by cases e
  | y :: l, 0, x, h, e => by cases e; rfl
  | y :: l, i + 1, x, h, e => by
    have h2 := wenc_high l i x h e
    rw [List.set_cons_succ, wenc, wenc, ← h2, show (i + 1) * 3 + 2 = 3 + (i * 3 + 2) by omega]
    exact List.set_append_right _ _ (by show 3 ≤ _; omega) |>.trans (by show y.enc ++ (wenc l).set (3 + (i * 3 + 2) - 3) _ = _; rw [show 3 + (i * 3 + 2) - 3 = i * 3 + 2 by omega])
/-- v is a slice whose wires are ws; if there are any they lie in block r, from its begin on. -/
def Wires (w : World) (v : Value) (ws : List WR) (r : Nat) : Prop := (ws = [] ∧ v = .slice none 0 0) ∨
  ∃ cap cur, v = .slice (some ⟨r, 0, none⟩) ws.length cap ∧ Blk w r cur 73 ∧ ws.length ≤ cap ∧ cap ≤ maxLen ∧ cur.size = cap * 3 ∧ cur.toList.take (ws.length * 3) = wenc ws
theorem Wires.upd {S : Nat → Prop} {w w' : World} {v : Value} {ws : List WR} {r : Nat} (u : Upd S w w') (h : Wires w v ws r) (hs : ¬ S r) : Wires w' v ws r := by
  rcases h with h | ⟨cap, cur, h1, h2, h3⟩
  · exact .inl h
  · exact .inr ⟨cap, cur, h1, Blk.upd u h2 hs, h3⟩
theorem Wires.slice {w : World} {v : Value} {ws : List WR} {r : Nat} (h : Wires w v ws r) : ∃ A c, v = .slice A ws.length c ∧ (0 < ws.length → A = some ⟨r, 0, none⟩) := by
  rcases h with ⟨rfl, rfl⟩ | ⟨cap, cur, rfl, _⟩
  · exact ⟨_, _, rfl, fun h => absurd h (by decide)⟩
  · exact ⟨_, _, rfl, fun _ => rfl⟩
theorem Wires.at {w : World} {v : Value} {ws : List WR} {r i : Nat} {x : WR} (h : Wires w v ws r) (hx : ws[i]? = some x) :
    w.cell? ⟨r, i * 3, none⟩ = some (.int .i64 x.ow) ∧ w.cell? ⟨r, i * 3 + 1, none⟩ = some (.int .i64 x.ln) ∧ w.cell? ⟨r, i * 3 + 2, none⟩ = some (.bool x.hi) ∧ w.frozen? ⟨r, i * 3 + 2, none⟩ = false := by
  have hi : i < ws.length := (List.getElem?_eq_some_iff.1 hx).1
  rcases h with ⟨rfl, _⟩ | ⟨cap, cur, rfl, hb, _, _, hz, ht⟩
  · cases hx
  · obtain ⟨e0, e1, e2⟩ := wenc_at ws i x hx
    have key : ∀ j u, j < 3 → (wenc ws)[i * 3 + j]? = some u → w.cell? ⟨r, i * 3 + j, none⟩ = some u := by
      intro j u hj hu
      rw [← ht, List.getElem?_take] at hu
      split at hu
      · exact hb.cell _ (by simpa using hu)
      · cases hu
    exact ⟨key 0 _ (by decide) e0, key 1 _ (by decide) e1, key 2 _ (by decide) e2, hb.frozen _⟩
theorem Wires.high {w : World} {v : Value} {ws : List WR} {r i : Nat} {x : WR} (h : Wires w v ws r) (hx : ws[i]? = some x) (hh : Bool) : Wires (w.setCell ⟨r, i * 3 + 2, none⟩ (.bool hh)) v (ws.set i { x with hi := hh }) r := by
  have hi : i < ws.length := (List.getElem?_eq_some_iff.1 hx).1
  rcases h with ⟨rfl, _⟩ | ⟨cap, cur, rfl, hb, h1, h2, hz, ht⟩
  · cases hx
  · refine .inr ⟨cap, cur.setIfInBounds (i * 3 + 2) (.bool hh), by rw [List.length_set], Blk.set hb, by rw [List.length_set]; exact h1, h2, by rw [Array.size_setIfInBounds]; exact hz, ?_⟩
    rw [List.length_set, ← wenc_high ws i x hh hx, ← ht, Array.toList_setIfInBounds, List.take_set]
/-- A row of the call's own, as wires; and back. -/
theorem Wires.of_own {w : World} {base : Nat} {v : Value} {ws : List WR} {r0 : Nat} (h : w.ownsRow base 73 3 v ws.length (wenc ws)) : ∃ r, Wires w v ws r ∧ ((v = .slice none 0 0 ∧ r = r0) ∨ (v.ownBlock = some r ∧ base ≤ r ∧ r < w.heap.size)) := by
  rcases h.2 with ⟨rfl, h0⟩ | ⟨g, cap, cur, rfl, hg, hh, h1, h2, h3, h4⟩
  · exact ⟨r0, .inl ⟨List.eq_nil_of_length_eq_zero h0, rfl⟩, .inl ⟨rfl, rfl⟩⟩
  · exact ⟨g, .inr ⟨cap, cur, rfl, hh, h1, h2, h3, h4⟩, .inr ⟨rfl, hg, (Array.getElem?_eq_some_iff.1 hh).1⟩⟩
theorem Wires.own {w : World} {base : Nat} {v : Value} {ws : List WR} {r : Nat} (h : Wires w v ws r) (hb : base ≤ r) : w.ownsRow base 73 3 v ws.length (wenc ws) := by
  refine ⟨wenc_length ws, ?_⟩
  rcases h with ⟨rfl, rfl⟩ | ⟨cap, cur, rfl, hh, h1, h2, h3, h4⟩
  · exact .inl ⟨rfl, rfl⟩
  · exact .inr ⟨r, cap, cur, rfl, hb, hh, h1, h2, h3, h4⟩
end Go.Proofs.Ytkhhmkcpbefadaa
