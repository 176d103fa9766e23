/- The document's board in memory: its block, its row of wires; bits against rows of truths. No condition. -/
import Derived.Test.YtkhhmkcpbefadaaIrqTurn
import Derived.Test.YtkhhmkcpbefadaaIrqOrderPlain
namespace Go.Proofs.Ytkhhmkcpbefadaa
open Go.RowKit
/-- v is a slice whose wires are ws; if there are any they lie in block r, from its begin on. -/
def RWires (w : World) (v : Value) (ws : List WR) (r : Nat) : Prop := (ws = [] ∧ v = .slice none 0 0) ∨
  ∃ cap cur, v = .slice (some ⟨r, 0, none⟩) ws.length cap ∧ Blk w r cur 87 ∧ ws.length ≤ cap ∧ cap ≤ maxLen ∧ cur.size = cap * 3 ∧ cur.toList.take (ws.length * 3) = wenc ws
theorem RWires.upd {S : Nat → Prop} {w w' : World} {v : Value} {ws : List WR} {r : Nat} (u : Upd S w w') (h : RWires w v ws r) (hs : ¬ S r) : RWires w' v ws r := by
  rcases h with h | ⟨cap, cur, h1, h2, h3⟩
  · exact .inl h
  · exact .inr ⟨cap, cur, h1, Blk.upd u h2 hs, h3⟩
theorem RWires.slice {w : World} {v : Value} {ws : List WR} {r : Nat} (h : RWires w v ws r) : ∃ A c, v = .slice A ws.length c ∧ (0 < ws.length → A = some ⟨r, 0, none⟩) := by
  rcases h with ⟨rfl, rfl⟩ | ⟨cap, cur, rfl, _⟩
  · exact ⟨_, _, rfl, fun h => absurd h (by decide)⟩
  · exact ⟨_, _, rfl, fun _ => rfl⟩
theorem RWires.at {w : World} {v : Value} {ws : List WR} {r i : Nat} {x : WR} (h : RWires w v ws r) (hx : ws[i]? = some x) :
    w.cell? ⟨r, i * 3, none⟩ = some (.int .i64 x.ow) ∧ w.cell? ⟨r, i * 3 + 1, none⟩ = some (.int .i64 x.ln) ∧ w.cell? ⟨r, i * 3 + 2, none⟩ = some (.bool x.hi) ∧ w.frozen? ⟨r, i * 3 + 2, none⟩ = false := by
  have hi : i < ws.length := (List.getElem?_eq_some_iff.1 hx).1
  rcases h with ⟨rfl, _⟩ | ⟨cap, cur, rfl, hb, _, _, hz, ht⟩
  · cases hx
  · obtain ⟨e0, e1, e2⟩ := wenc_at ws i x hx
    have key : ∀ j u, j < 3 → (wenc ws)[i * 3 + j]? = some u → w.cell? ⟨r, i * 3 + j, none⟩ = some u := by
      intro j u hj hu
      rw [← ht, List.getElem?_take] at hu
      split at hu
      · exact hb.cell _ (by simpa using hu)
      · cases hu
    exact ⟨key 0 _ (by decide) e0, key 1 _ (by decide) e1, key 2 _ (by decide) e2, hb.frozen _⟩
theorem RWires.high {w : World} {v : Value} {ws : List WR} {r i : Nat} {x : WR} (h : RWires w v ws r) (hx : ws[i]? = some x) (hh : Bool) : RWires (w.setCell ⟨r, i * 3 + 2, none⟩ (.bool hh)) v (ws.set i { x with hi := hh }) r := by
  have hi : i < ws.length := (List.getElem?_eq_some_iff.1 hx).1
  rcases h with ⟨rfl, _⟩ | ⟨cap, cur, rfl, hb, h1, h2, hz, ht⟩
  · cases hx
  · refine .inr ⟨cap, cur.setIfInBounds (i * 3 + 2) (.bool hh), by rw [List.length_set], Blk.set hb, by rw [List.length_set]; exact h1, h2, by rw [Array.size_setIfInBounds]; exact hz, ?_⟩
    rw [List.length_set, ← wenc_high ws i x hh hx, ← ht, Array.toList_setIfInBounds, List.take_set]
/-- A row of the call's own, as wires; and back. -/
theorem RWires.of_own {w : World} {base : Nat} {v : Value} {ws : List WR} {r0 : Nat} (h : w.ownsRow base 87 3 v ws.length (wenc ws)) : ∃ r, RWires w v ws r ∧ ((v = .slice none 0 0 ∧ r = r0) ∨ (v.ownBlock = some r ∧ base ≤ r ∧ r < w.heap.size)) := by
  rcases h.2 with ⟨rfl, h0⟩ | ⟨g, cap, cur, rfl, hg, hh, h1, h2, h3, h4⟩
  · exact ⟨r0, .inl ⟨List.eq_nil_of_length_eq_zero h0, rfl⟩, .inl ⟨rfl, rfl⟩⟩
  · exact ⟨g, .inr ⟨cap, cur, rfl, hh, h1, h2, h3, h4⟩, .inr ⟨rfl, hg, (Array.getElem?_eq_some_iff.1 hh).1⟩⟩
theorem RWires.own {w : World} {base : Nat} {v : Value} {ws : List WR} {r : Nat} (h : RWires w v ws r) (hb : base ≤ r) : w.ownsRow base 87 3 v ws.length (wenc ws) := by
  refine ⟨wenc_length ws, ?_⟩
  rcases h with ⟨rfl, rfl⟩ | ⟨cap, cur, rfl, hh, h1, h2, h3, h4⟩
  · exact .inl ⟨rfl, rfl⟩
  · exact .inr ⟨r, cap, cur, rfl, hb, hh, h1, h2, h3, h4⟩
theorem RWires.ow' {w : World} {v : Value} {ws : List WR} {r i : Nat} {x : WR} (h : RWires w v ws r) (hx : ws[i]? = some x) (z : Int) : RWires (w.setCell ⟨r, i * 3, none⟩ (.int .i64 z)) v (ws.set i { x with ow := z }) r := by
  have hi : i < ws.length := (List.getElem?_eq_some_iff.1 hx).1
  rcases h with ⟨rfl, rfl⟩ | ⟨cap, cur, rfl, hb, h1, h2, hz, ht⟩
  · cases hx
  · refine .inr ⟨cap, cur.setIfInBounds (i * 3) (.int .i64 z), by rw [List.length_set], Blk.set hb, by rw [List.length_set]; exact h1, h2, by rw [Array.size_setIfInBounds]; exact hz, ?_⟩
    rw [List.length_set, ← wenc_ow ws i x z hx, ← ht, Array.toList_setIfInBounds, List.take_set]
theorem RWires.ln' {w : World} {v : Value} {ws : List WR} {r i : Nat} {x : WR} (h : RWires w v ws r) (hx : ws[i]? = some x) (z : Int) : RWires (w.setCell ⟨r, i * 3 + 1, none⟩ (.int .i64 z)) v (ws.set i { x with ln := z }) r := by
  have hi : i < ws.length := (List.getElem?_eq_some_iff.1 hx).1
  rcases h with ⟨rfl, rfl⟩ | ⟨cap, cur, rfl, hb, h1, h2, hz, ht⟩
  · cases hx
  · refine .inr ⟨cap, cur.setIfInBounds (i * 3 + 1) (.int .i64 z), by rw [List.length_set], Blk.set hb, by rw [List.length_set]; exact h1, h2, by rw [Array.size_setIfInBounds]; exact hz, ?_⟩
    rw [List.length_set, ← wenc_ln ws i x z hx, ← ht, Array.toList_setIfInBounds, List.take_set]
theorem RWires.frz {w : World} {v : Value} {ws : List WR} {r i : Nat} {x : WR} (h : RWires w v ws r) (hx : ws[i]? = some x) (j : Nat) : w.frozen? ⟨r, j, none⟩ = false := by
  rcases h with ⟨rfl, _⟩ | ⟨cap, cur, rfl, hb, _⟩
  · cases hx
  · exact hb.frozen _
/-- The block: the row's slice, 64 truths of what waits, 64 of what is let through. -/
def renc (v : Value) (f : Nat → Bool) : Array Value := (v :: (List.range 128).map fun i => Value.bool (f i)).toArray
def updF (f : Nat → Bool) (i : Nat) (x : Bool) : Nat → Bool := fun j => if j = i then x else f j
theorem renc_row (v : Value) (f : Nat → Bool) : (renc v f)[0]? = some v := rfl
theorem renc_at (v : Value) (f : Nat → Bool) {i : Nat} (h : i < 128) : (renc v f)[1 + i]? = some (.bool (f i)) := by
  simp [renc, Nat.add_comm 1 i, h]
theorem renc_set (v : Value) (f : Nat → Bool) {i : Nat} (h : i < 128) (x : Bool) : (renc v f).setIfInBounds (1 + i) (.bool x) = renc v (updF f i x) := by
  apply Array.ext_getElem?
  intro j
  rw [Array.getElem?_setIfInBounds]
  by_cases e : 1 + i = j
  · subst e
    rw [if_pos rfl, renc_at v _ h, if_pos (by simp [renc]; omega)]
    simp [updF]
  · rw [if_neg e]
    rcases j with _ | j
    · rfl
    · by_cases hj : j < 128
      · rw [Nat.add_comm j 1, renc_at v f hj, renc_at v _ hj]
        unfold updF
        rw [if_neg (by omega)]
      · rw [List.getElem?_toArray.trans (List.getElem?_eq_none_iff.2 (by simp; omega)) |> (fun h => (show (renc v f)[j + 1]? = none from h)), List.getElem?_toArray.trans (List.getElem?_eq_none_iff.2 (by simp; omega)) |> (fun h => (show (renc v (updF f i x))[j + 1]? = none from h))]
theorem renc_setRow (v u : Value) (f : Nat → Bool) : (renc v f).setIfInBounds 0 u = renc u f := rfl
/-- The bytes' bits are the truths. -/
structure Bt (s : WS) (f : Nat → Bool) : Prop where
  wt : ∀ k j, k < 8 → j < 8 → (s.wt k).testBit j = f (k * 8 + j)
  le : ∀ k j, k < 8 → j < 8 → (s.le k).testBit j = f (64 + k * 8 + j)
theorem Bt.fresh : Bt WS.fresh (fun _ => false) := ⟨fun _ _ _ _ => by show (0 : Nat).testBit _ = false; simp, fun _ _ _ _ => by show (0 : Nat).testBit _ = false; simp⟩
/-- A bit is set among what waits. -/
theorem Bt.up {s : WS} {f : Nat → Bool} (h : Bt s f) {k L : Nat} (hk : k < 8) (hL : L < 8) : Bt (s.setW k (s.wt k ||| 2 ^ L)) (updF f (k * 8 + L) true) := by
  refine ⟨fun k' j hk' hj => ?_, fun k' j hk' hj => ?_⟩
  · show (if k' = k then s.wt k ||| 2 ^ L else s.wt k').testBit j = _
    unfold updF
    by_cases e : k' = k
    · subst e
      rw [if_pos rfl, Nat.testBit_or, Nat.testBit_two_pow, h.wt k' j hk' hj]
      by_cases e2 : L = j
      · subst e2; simp
      · rw [if_neg (by omega)]; simp [e2]
    · rw [if_neg e, if_neg (by omega)]; exact h.wt k' j hk' hj
  · show (s.le k').testBit j = _
    unfold updF
    rw [if_neg (by omega)]; exact h.le k' j hk' hj
/-- A bit is cleared among what waits. -/
theorem Bt.down {s : WS} {f : Nat → Bool} (h : Bt s f) {k L : Nat} (hk : k < 8) (hL : L < 8) (hw : s.wt k < 256) : Bt (s.setW k (clr (s.wt k) L)) (updF f (k * 8 + L) false) := by
  refine ⟨fun k' j hk' hj => ?_, fun k' j hk' hj => ?_⟩
  · show (if k' = k then clr (s.wt k) L else s.wt k').testBit j = _
    unfold updF
    by_cases e : k' = k
    · subst e
      have hc := clr_fin ⟨_, hw⟩ ⟨L, hL⟩ ⟨j, hj⟩
      simp only [Fin.mk.injEq] at hc
      rw [if_pos rfl, hc, h.wt k' j hk' hj]
      by_cases e2 : j = L
      · subst e2; simp
      · rw [if_neg (by omega)]; simp [e2]
    · rw [if_neg e, if_neg (by omega)]; exact h.wt k' j hk' hj
  · show (s.le k').testBit j = _
    unfold updF
    rw [if_neg (by omega)]; exact h.le k' j hk' hj
/-- The document's board lies in block b, its wires in block r. -/
structure RI (w : World) (b r : Nat) (ws : List WR) (f : Nat → Bool) : Prop where
  ex : ∃ v, Blk w b (renc v f) 85 ∧ RWires w v ws r ∧ (r ≠ b ∨ (ws = [] ∧ v = .slice none 0 0))
  lt : r < w.heap.size
theorem RI.upd {S : Nat → Prop} {w w' : World} {b r : Nat} {ws : List WR} {f : Nat → Bool} (u : Upd S w w') (h : RI w b r ws f) (hb : ¬ S b) (hr : ¬ S r) : RI w' b r ws f := by
  obtain ⟨v, h1, h2, h3⟩ := h.ex
  exact ⟨⟨v, Blk.upd u h1 hb, h2.upd u hr, h3⟩, Nat.lt_of_lt_of_le h.lt u.size⟩
theorem RI.non {w w' : World} {b r : Nat} {ws : List WR} {f : Nat → Bool} (u : Upd Non w w') (h : RI w b r ws f) : RI w' b r ws f := h.upd u id id
theorem RI.ltb {w : World} {b r : Nat} {ws : List WR} {f : Nat → Bool} (h : RI w b r ws f) : b < w.heap.size := by
  obtain ⟨v, h1, _, _⟩ := h.ex
  exact Blk.lt h1
theorem RI.bit {w : World} {b r : Nat} {ws : List WR} {f : Nat → Bool} (h : RI w b r ws f) {i : Nat} (hi : i < 128) (x : Bool) : RI (w.setCell ⟨b, 1 + i, none⟩ (.bool x)) b r ws (updF f i x) := by
  obtain ⟨v, h1, h2, h3⟩ := h.ex
  refine ⟨⟨v, Blk.eq (Blk.set h1) (renc_set v f hi x), ?_, h3⟩, by rw [World.size_setCell]; exact h.lt⟩
  rcases h3 with h3 | ⟨h3, h4⟩
  · exact h2.upd (S := fun i => i = b) ((Upd.refl _ _).setCell (.inl rfl)) h3
  · subst h3; subst h4; exact .inl ⟨rfl, rfl⟩
section
variable {w : World} {b r i : Nat} {ws : List WR} {f : Nat → Bool} {x : WR}
theorem RI.ne (h : RI w b r ws f) (hx : ws[i]? = some x) : r ≠ b := by
  obtain ⟨v, _, _, h3⟩ := h.ex
  rcases h3 with h3 | ⟨rfl, _⟩
  · exact h3
  · cases hx
theorem RI.put {w' : World} (h : RI w b r ws f) (hx : ws[i]? = some x) (u : Upd (fun i => i = r) w w') (ws' : List WR) (hw : ∀ v, RWires w v ws r → RWires w' v ws' r) : RI w' b r ws' f := by
  have hn := h.ne hx
  obtain ⟨v, h1, h2, _⟩ := h.ex
  exact ⟨⟨v, Blk.upd u h1 (fun e => hn e.symm), hw v h2, .inl hn⟩, Nat.lt_of_lt_of_le h.lt u.size⟩
/-- A whole wire is written. -/
theorem RI.wire (h : RI w b r ws f) (hx : ws[i]? = some x) (o l : Int) (hi : Bool) : RI (((w.setCell ⟨r, i * 3, none⟩ (.int .i64 o)).setCell ⟨r, i * 3 + 1, none⟩ (.int .i64 l)).setCell ⟨r, i * 3 + 2, none⟩ (.bool hi)) b r (ws.set i ⟨o, l, hi⟩) f := by
  refine h.put hx (by ((with_reducible repeat' first | exact Upd.refl _ _ | apply Upd.drew | apply Upd.drewN | apply Upd.alloc | refine Upd.setCell ?_ ?_) <;> first | (intro _ _ h; exact h) | (intro _ _ h; exact h.elim) | (intro i h1 h2; exfalso; (try simp only at h2); omega) | (left; rfl) | (right; dsimp only; omega) | (right; omega))) _ fun v hv => ?_
  have h1 := hv.ow' hx o
  have h2 := h1.ln' (set_at hx _) l
  have h3 := h2.high (set_at (set_at hx _) _) hi
  rw [List.set_set, List.set_set] at h3
  exact h3
theorem RI.high (h : RI w b r ws f) (hx : ws[i]? = some x) (hh : Bool) : RI (w.setCell ⟨r, i * 3 + 2, none⟩ (.bool hh)) b r (ws.set i { x with hi := hh }) f :=
  h.put hx ((Upd.refl _ _).setCell (.inl rfl)) _ fun _ hv => hv.high hx hh
end
end Go.Proofs.Ytkhhmkcpbefadaa
