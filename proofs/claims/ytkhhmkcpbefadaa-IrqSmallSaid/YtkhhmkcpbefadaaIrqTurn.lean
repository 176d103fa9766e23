/- Own, Drop, Route, Line. Condition: the board is known. -/
import Derived.Test.YtkhhmkcpbefadaaIrqAwake
namespace Go.Proofs.Ytkhhmkcpbefadaa
open Go.RowKit
theorem wenc_ow : ∀ (ws : List WR) (i : Nat) (x : WR) (z : Int), ws[i]? = some x → (wenc ws).set (i * 3) (.int .i64 z) = wenc (ws.set i { x with ow := z })
  | [], i, x, z, e => by cases e
  | y :: l, 0, x, z, e => by cases e; rfl
  | y :: l, i + 1, x, z, e => by
    have h2 := wenc_ow l i x z e
    rw [List.set_cons_succ, wenc, wenc, ← h2, show (i + 1) * 3 = 3 + (i * 3) by omega]
    exact List.set_append_right _ _ (by show 3 ≤ _; omega) |>.trans (by show y.enc ++ (wenc l).set (3 + (i * 3) - 3) _ = _; rw [show 3 + (i * 3) - 3 = i * 3 by omega])
theorem Wires.ow' {w : World} {v : Value} {ws : List WR} {r i : Nat} {x : WR} (h : Wires w v ws r) (hx : ws[i]? = some x) (z : Int) : Wires (w.setCell ⟨r, i * 3, none⟩ (.int .i64 z)) v (ws.set i { x with ow := z }) r := by
  have hi : i < ws.length := (List.getElem?_eq_some_iff.1 hx).1
  rcases h with ⟨rfl, rfl⟩ | ⟨cap, cur, rfl, hb, h1, h2, hz, ht⟩
  · cases hx
  · refine .inr ⟨cap, cur.setIfInBounds (i * 3) (.int .i64 z), by rw [List.length_set], Blk.set hb, by rw [List.length_set]; exact h1, h2, by rw [Array.size_setIfInBounds]; exact hz, ?_⟩
    rw [List.length_set, ← wenc_ow ws i x z hx, ← ht, Array.toList_setIfInBounds, List.take_set]
theorem BI.ow' {w : World} {b r i : Nat} {ws : List WR} {s : WS} {x : WR} (h : BI w b r ws s) (hx : ws[i]? = some x) (z : Int) : BI (w.setCell ⟨r, i * 3, none⟩ (.int .i64 z)) b r (ws.set i { x with ow := z }) s := by
  obtain ⟨v, h1, h2, h3⟩ := h.ex
  have h4 : r ≠ b := by
    rcases h3 with h3 | ⟨rfl, _⟩
    · exact h3
    · cases hx
  exact ⟨⟨v, Blk.set_ne h1.blk (fun e => h4 e.symm), h2.ow' hx z, .inl h4⟩, by rw [World.size_setCell]; exact h.lt⟩
theorem wenc_ln : ∀ (ws : List WR) (i : Nat) (x : WR) (z : Int), ws[i]? = some x → (wenc ws).set (i * 3 + 1) (.int .i64 z) = wenc (ws.set i { x with ln := z })
  | [], i, x, z, e => by cases e
  | y :: l, 0, x, z, e => by cases e; rfl
  | y :: l, i + 1, x, z, e => by
    have h2 := wenc_ln l i x z e
    rw [List.set_cons_succ, wenc, wenc, ← h2, show (i + 1) * 3 + 1 = 3 + (i * 3 + 1) by omega]
    exact List.set_append_right _ _ (by show 3 ≤ _; omega) |>.trans (by show y.enc ++ (wenc l).set (3 + (i * 3 + 1) - 3) _ = _; rw [show 3 + (i * 3 + 1) - 3 = i * 3 + 1 by omega])
theorem Wires.ln' {w : World} {v : Value} {ws : List WR} {r i : Nat} {x : WR} (h : Wires w v ws r) (hx : ws[i]? = some x) (z : Int) : Wires (w.setCell ⟨r, i * 3 + 1, none⟩ (.int .i64 z)) v (ws.set i { x with ln := z }) r := by
  have hi : i < ws.length := (List.getElem?_eq_some_iff.1 hx).1
  rcases h with ⟨rfl, rfl⟩ | ⟨cap, cur, rfl, hb, h1, h2, hz, ht⟩
  · cases hx
  · refine .inr ⟨cap, cur.setIfInBounds (i * 3 + 1) (.int .i64 z), by rw [List.length_set], Blk.set hb, by rw [List.length_set]; exact h1, h2, by rw [Array.size_setIfInBounds]; exact hz, ?_⟩
    rw [List.length_set, ← wenc_ln ws i x z hx, ← ht, Array.toList_setIfInBounds, List.take_set]
theorem BI.ln' {w : World} {b r i : Nat} {ws : List WR} {s : WS} {x : WR} (h : BI w b r ws s) (hx : ws[i]? = some x) (z : Int) : BI (w.setCell ⟨r, i * 3 + 1, none⟩ (.int .i64 z)) b r (ws.set i { x with ln := z }) s := by
  obtain ⟨v, h1, h2, h3⟩ := h.ex
  have h4 : r ≠ b := by
    rcases h3 with h3 | ⟨rfl, _⟩
    · exact h3
    · cases hx
  exact ⟨⟨v, Blk.set_ne h1.blk (fun e => h4 e.symm), h2.ln' hx z, .inl h4⟩, by rw [World.size_setCell]; exact h.lt⟩
theorem Wires.frz {w : World} {v : Value} {ws : List WR} {r i : Nat} {x : WR} (h : Wires w v ws r) (hx : ws[i]? = some x) (j : Nat) : w.frozen? ⟨r, j, none⟩ = false := by
  rcases h with ⟨rfl, _⟩ | ⟨cap, cur, rfl, hb, _⟩
  · cases hx
  · exact hb.frozen _
theorem has_no {ws : List WR} {s : WS} {b r : Nat} {k : Int} (hk : k < 0 ∨ (ws.length : Int) ≤ k) (w : World) (h : BI w b r ws s) : Calls Try.prog 37 #[.pointer (some ⟨b, 0, none⟩), .int .i64 k] w fun e w' => e = .returned (.bool false) ∧ w = w' := by
  obtain ⟨v, h1, h2, _⟩ := h.ex
  obtain ⟨A2, c2, rfl, _⟩ := h2.slice
  have c0 := h1.blk.cell 0 (benc_row _ _)
  clear h h1 h2
  rcases hk with hk | hk
  · have k1 : ¬ (0 : Int) ≤ k := by omega
    go_enter Try.func37, Try.ntmps37
    go_wp2
    go_ret
    exact ⟨rfl, rfl⟩
  · have k1 : (0 : Int) ≤ k := by omega
    have k2 : ¬ k < (ws.length : Int) := by omega
    go_enter Try.func37, Try.ntmps37
    go_wp2
    go_ret
    exact ⟨rfl, rfl⟩
theorem has_yes {ws : List WR} {s : WS} {b r k : Nat} (hk : k < ws.length) (w : World) (h : BI w b r ws s) : Calls Try.prog 37 #[.pointer (some ⟨b, 0, none⟩), .int .i64 k] w fun e w' => e = .returned (.bool true) ∧ w = w' := by
  obtain ⟨v, h1, h2, _⟩ := h.ex
  obtain ⟨A2, c2, rfl, _⟩ := h2.slice
  have c0 := h1.blk.cell 0 (benc_row _ _)
  clear h h1 h2
  have k1 : (0 : Int) ≤ (k : Int) := by omega
  have k2 : (k : Int) < (ws.length : Int) := by omega
  go_enter Try.func37, Try.ntmps37
  go_wp2
  go_ret
  exact ⟨rfl, rfl⟩
theorem line_no {ws : List WR} {s : WS} {b r : Nat} {k : Int} (hk : k < 0 ∨ (ws.length : Int) ≤ k) (w : World) (h : BI w b r ws s) : Calls Try.prog 20 #[.pointer (some ⟨b, 0, none⟩), .int .i64 k] w fun e w' => e = .returned (.int .i64 (-1)) ∧ w = w' := by
  obtain ⟨v, h1, _, _⟩ := h.ex
  have HB := Lib.hid h1
  have H := Lib.hid h
  clear h h1
  go_enter Try.func20, Try.ntmps20
  go_wp2_with (first | (go_at_call 30; refine (there_is _ HB.out).mono ?_; rintro e w1 ⟨rfl, rfl⟩) | (go_at_call 37; refine (has_no hk _ H.out).mono ?_; rintro e w1 ⟨rfl, rfl⟩))
  go_ret
  exact ⟨rfl, rfl⟩
theorem line_yes {ws : List WR} {s : WS} {b r k : Nat} {x : WR} (hx : ws[k]? = some x) (w : World) (h : BI w b r ws s) : Calls Try.prog 20 #[.pointer (some ⟨b, 0, none⟩), .int .i64 k] w fun e w' => e = .returned (.int .i64 x.ln) ∧ w = w' := by
  have hk : k < ws.length := (List.getElem?_eq_some_iff.1 hx).1
  obtain ⟨v, h1, h2, _⟩ := h.ex
  obtain ⟨A2, c2, rfl, hA⟩ := h2.slice
  obtain rfl := hA (by omega)
  have c0 := h1.blk.cell 0 (benc_row _ _)
  obtain ⟨r0, r1, r2, rf⟩ := h2.at hx
  have HB := Lib.hid h1
  have H := Lib.hid h
  have k1 : (k : Int) < (ws.length : Int) := by omega
  clear h h1 h2
  go_enter Try.func20, Try.ntmps20
  go_wp2_with (first | (go_at_call 30; refine (there_is _ HB.out).mono ?_; rintro e w1 ⟨rfl, rfl⟩) | (go_at_call 37; refine (has_yes hk _ H.out).mono ?_; rintro e w1 ⟨rfl, rfl⟩))
  go_ret
  exact ⟨rfl, rfl⟩
theorem set_at {ws : List WR} {k : Nat} {x : WR} (hx : ws[k]? = some x) (y : WR) : (ws.set k y)[k]? = some y := by
  have hk : k < ws.length := (List.getElem?_eq_some_iff.1 hx).1
  rw [List.getElem?_set_self hk]
theorem fn_own {g r o : Nat} {z y : Int} (w : World) (hg : w.cell? ⟨g, 0, none⟩ = some (.int .i64 z)) (hc : w.cell? ⟨r, o, none⟩ = some (.int .i64 y)) (hf : w.frozen? ⟨r, o, none⟩ = false) :
    Calls Try.prog 34 #[.pointer (some ⟨r, o, none⟩), .pointer (some ⟨g, 0, none⟩)] w fun e w' => e = .returned (.tuple #[]) ∧ w' = w.setCell ⟨r, o, none⟩ (.int .i64 z) := by
  go_enter Try.func34, Try.ntmps34
  go_wp2
  go_end0
  exact ⟨rfl, rfl⟩
theorem fn_route {g r o : Nat} {z y : Int} (w : World) (hg : w.cell? ⟨g, 0, none⟩ = some (.int .i64 z)) (hc : w.cell? ⟨r, o + 1, none⟩ = some (.int .i64 y)) (hf : w.frozen? ⟨r, o + 1, none⟩ = false) :
    Calls Try.prog 36 #[.pointer (some ⟨r, o, none⟩), .pointer (some ⟨g, 0, none⟩)] w fun e w' => e = .returned (.tuple #[]) ∧ w' = w.setCell ⟨r, o + 1, none⟩ (.int .i64 z) := by
  go_enter Try.func36, Try.ntmps36
  go_wp2
  go_end0
  exact ⟨rfl, rfl⟩
theorem fn_drop {r o : Nat} {y z : Int} (w : World) (hc : w.cell? ⟨r, o, none⟩ = some (.int .i64 y)) (hf : w.frozen? ⟨r, o, none⟩ = false) (hc1 : w.cell? ⟨r, o + 1, none⟩ = some (.int .i64 z)) (hf1 : w.frozen? ⟨r, o + 1, none⟩ = false) :
    Calls Try.prog 35 #[.pointer (some ⟨r, o, none⟩)] w fun e w' => e = .returned (.tuple #[]) ∧ w' = (w.setCell ⟨r, o, none⟩ (.int .i64 (-1))).setCell ⟨r, o + 1, none⟩ (.int .i64 (-1)) := by
  go_enter Try.func35, Try.ntmps35
  go_wp2
  go_end0
  exact ⟨rfl, rfl⟩
theorem turn_drop {ws : List WR} {s : WS} {b r k : Nat} {x : WR} (hx : ws[k]? = some x) (w : World) (h : BI w b r ws s) : Calls Try.prog 33 #[.pointer (some ⟨b, 0, none⟩), .int .i64 k, .func (.func 35) #[] #[]] w fun e w' => e = .returned (.int .i64 0) ∧ BI w' b r (ws.set k ⟨-1, -1, false⟩) s ∧ Upd (fun i => i = r) w w' := by
  have hk : k < ws.length := (List.getElem?_eq_some_iff.1 hx).1
  obtain ⟨v, h1, h2, h3⟩ := h.ex
  have hrb : r ≠ b := by
    rcases h3 with h3 | ⟨rfl, _⟩
    · exact h3
    · cases hx
  obtain ⟨A2, c2, rfl, hA⟩ := h2.slice
  obtain rfl := hA (by omega)
  have c0 := h1.blk.cell 0 (benc_row _ _)
  obtain ⟨r0, r1, r2, rf⟩ := h2.at hx
  have H := Lib.hid h
  have k1 : (k : Int) < (ws.length : Int) := by omega
  have HX := Lib.hid hx
  have HD := Lib.hid (show Upd (fun i => i = r) w (w.setCell ⟨r, k * 3 + 2, none⟩ (.bool false)) from (Upd.refl _ _).setCell (.inl rfl))
  have HB := Lib.hid (h.high hx false)
  obtain ⟨v', b1, b2, _⟩ := HB.out.ex
  have R := Lib.hid (b2.at (set_at hx _))
  have F := Lib.hid (fun j => b2.frz (set_at hx _) j)
  clear h h1 h2 hx b1 b2
  go_enter Try.func33, Try.ntmps33
  go_wp2_with (first
    | (go_at_call 37; refine (has_yes hk _ H.out).mono ?_; rintro e w1 ⟨rfl, rfl⟩)
    | (go_at_call 35; refine (fn_drop _ R.out.1 (F.out _) R.out.2.1 (F.out _)).mono ?_; rintro e w1 ⟨rfl, rfl⟩))
  go_ret
  have h1 := HB.out.ow' (set_at HX.out _) (-1)
  have h2 := h1.ln' (set_at (set_at HX.out _) _) (-1)
  rw [List.set_set, List.set_set] at h2
  exact ⟨rfl, h2, (HD.out.setCell (.inl rfl)).setCell (.inl rfl)⟩
theorem turn_own {ws : List WR} {s : WS} {b r k : Nat} {x : WR} {g : Nat} {z : Int} (hx : ws[k]? = some x) (w : World) (h : BI w b r ws s) (hg : w.cell? ⟨g, 0, none⟩ = some (.int .i64 z)) (hgr : g ≠ r) : Calls Try.prog 33 #[.pointer (some ⟨b, 0, none⟩), .int .i64 k, .func (.func 34) #[] #[.pointer (some ⟨g, 0, none⟩)]] w fun e w' => e = .returned (.int .i64 0) ∧ BI w' b r (ws.set k ⟨z, x.ln, false⟩) s ∧ Upd (fun i => i = r) w w' := by
  have hk : k < ws.length := (List.getElem?_eq_some_iff.1 hx).1
  obtain ⟨v, h1, h2, h3⟩ := h.ex
  have hrb : r ≠ b := by
    rcases h3 with h3 | ⟨rfl, _⟩
    · exact h3
    · cases hx
  obtain ⟨A2, c2, rfl, hA⟩ := h2.slice
  obtain rfl := hA (by omega)
  have c0 := h1.blk.cell 0 (benc_row _ _)
  obtain ⟨r0, r1, r2, rf⟩ := h2.at hx
  have H := Lib.hid h
  have k1 : (k : Int) < (ws.length : Int) := by omega
  have HX := Lib.hid hx
  have HD := Lib.hid (show Upd (fun i => i = r) w (w.setCell ⟨r, k * 3 + 2, none⟩ (.bool false)) from (Upd.refl _ _).setCell (.inl rfl))
  have HB := Lib.hid (h.high hx false)
  obtain ⟨v', b1, b2, _⟩ := HB.out.ex
  have R := Lib.hid (b2.at (set_at hx _))
  have F := Lib.hid (fun j => b2.frz (set_at hx _) j)
  have HG := Lib.hid (HD.out.cell_eq (p := ⟨g, 0, none⟩) hgr hg)
  clear h h1 h2 hx b1 b2
  go_enter Try.func33, Try.ntmps33
  go_wp2_with (first
    | (go_at_call 37; refine (has_yes hk _ H.out).mono ?_; rintro e w1 ⟨rfl, rfl⟩)
    | (go_at_call 34; refine (fn_own _ HG.out R.out.1 (F.out _)).mono ?_; rintro e w1 ⟨rfl, rfl⟩))
  go_ret
  have h1 := HB.out.ow' (set_at HX.out _) z
  rw [List.set_set] at h1
  exact ⟨rfl, h1, HD.out.setCell (.inl rfl)⟩
theorem turn_route {ws : List WR} {s : WS} {b r k : Nat} {x : WR} {g : Nat} {z : Int} (hx : ws[k]? = some x) (w : World) (h : BI w b r ws s) (hg : w.cell? ⟨g, 0, none⟩ = some (.int .i64 z)) (hgr : g ≠ r) : Calls Try.prog 33 #[.pointer (some ⟨b, 0, none⟩), .int .i64 k, .func (.func 36) #[] #[.pointer (some ⟨g, 0, none⟩)]] w fun e w' => e = .returned (.int .i64 0) ∧ BI w' b r (ws.set k ⟨x.ow, z, false⟩) s ∧ Upd (fun i => i = r) w w' := by
  have hk : k < ws.length := (List.getElem?_eq_some_iff.1 hx).1
  obtain ⟨v, h1, h2, h3⟩ := h.ex
  have hrb : r ≠ b := by
    rcases h3 with h3 | ⟨rfl, _⟩
    · exact h3
    · cases hx
  obtain ⟨A2, c2, rfl, hA⟩ := h2.slice
  obtain rfl := hA (by omega)
  have c0 := h1.blk.cell 0 (benc_row _ _)
  obtain ⟨r0, r1, r2, rf⟩ := h2.at hx
  have H := Lib.hid h
  have k1 : (k : Int) < (ws.length : Int) := by omega
  have HX := Lib.hid hx
  have HD := Lib.hid (show Upd (fun i => i = r) w (w.setCell ⟨r, k * 3 + 2, none⟩ (.bool false)) from (Upd.refl _ _).setCell (.inl rfl))
  have HB := Lib.hid (h.high hx false)
  obtain ⟨v', b1, b2, _⟩ := HB.out.ex
  have R := Lib.hid (b2.at (set_at hx _))
  have F := Lib.hid (fun j => b2.frz (set_at hx _) j)
  have HG := Lib.hid (HD.out.cell_eq (p := ⟨g, 0, none⟩) hgr hg)
  clear h h1 h2 hx b1 b2
  go_enter Try.func33, Try.ntmps33
  go_wp2_with (first
    | (go_at_call 37; refine (has_yes hk _ H.out).mono ?_; rintro e w1 ⟨rfl, rfl⟩)
    | (go_at_call 36; refine (fn_route _ HG.out R.out.2.1 (F.out _)).mono ?_; rintro e w1 ⟨rfl, rfl⟩))
  go_ret
  have h1 := HB.out.ln' (set_at HX.out _) z
  rw [List.set_set] at h1
  exact ⟨rfl, h1, HD.out.setCell (.inl rfl)⟩
theorem turn_no {ws : List WR} {s : WS} {b r : Nat} {k : Int} (f : Value) (hk : k < 0 ∨ (ws.length : Int) ≤ k) (w : World) (h : BI w b r ws s) : Calls Try.prog 33 #[.pointer (some ⟨b, 0, none⟩), .int .i64 k, f] w fun e w' => e = .returned (.int .i64 6) ∧ w = w' := by
  have H := Lib.hid h
  clear h
  go_enter Try.func33, Try.ntmps33
  go_wp2_with (go_at_call 37; refine (has_no hk _ H.out).mono ?_; rintro e w1 ⟨rfl, rfl⟩)
  go_ret
  exact ⟨rfl, rfl⟩
/-- What turns, and what is told. -/
def dropR (ws : List WR) (n : Int) : Int := if n < 0 ∨ (ws.length : Int) ≤ n then 6 else 0
def dropW (ws : List WR) (n : Int) : List WR := if n < 0 ∨ (ws.length : Int) ≤ n then ws else ws.set n.toNat ⟨-1, -1, false⟩
def ownR (ws : List WR) (n k : Int) : Int := if badW k then 6 else if n < 0 ∨ (ws.length : Int) ≤ n then 6 else 0
def ownW (ws : List WR) (n k : Int) : List WR := if badW k then ws else match ws[n.toNat]? with
  | some x => if n < 0 then ws else ws.set n.toNat ⟨k, x.ln, false⟩
  | none => ws
def mayL (k : Int) : Prop := -1 ≤ k ∧ k < 8
instance (k : Int) : Decidable (mayL k) := inferInstanceAs (Decidable (_ ∧ _))
def routeR (ws : List WR) (n k : Int) : Int := if mayL k then (if n < 0 ∨ (ws.length : Int) ≤ n then 6 else 0) else 6
def routeW (ws : List WR) (n k : Int) : List WR := if mayL k then (match ws[n.toNat]? with
  | some x => if n < 0 then ws else ws.set n.toNat ⟨x.ow, k, false⟩
  | none => ws) else ws
theorem there_b {ws : List WR} {s : WS} {b r : Nat} (w : World) (h : BI w b r ws s) : Calls Try.prog 30 #[.pointer (some ⟨b, 0, none⟩)] w fun e w' => e = .returned (.bool true) ∧ w = w' := by
  obtain ⟨v, h1, _, _⟩ := h.ex
  exact there_is w h1
theorem drop_b {ws : List WR} {s : WS} {b r : Nat} (n : Int) (w : World) (h : BI w b r ws s) : Calls Try.prog 18 #[.pointer (some ⟨b, 0, none⟩), .int .i64 n] w fun e w' => e = .returned (.int .i64 (dropR ws n)) ∧ BI w' b r (dropW ws n) s ∧ Upd (fun i => i = r) w w' := by
  have H := Lib.hid h
  clear h
  unfold dropR dropW
  by_cases hn : n < 0 ∨ (ws.length : Int) ≤ n
  · rw [if_pos hn, if_pos hn]
    go_enter Try.func18, Try.ntmps18
    go_wp2_with (first | (go_at_call 30; refine (there_b _ H.out).mono ?_; rintro e w1 ⟨rfl, rfl⟩) | (go_at_call 33; refine (turn_no _ hn _ H.out).mono ?_; rintro e w1 ⟨rfl, rfl⟩))
    go_ret
    exact ⟨rfl, H.out, Upd.refl _ _⟩
  · rw [if_neg hn, if_neg hn]
    obtain ⟨k, rfl⟩ : ∃ k : Nat, n = k := ⟨n.toNat, by omega⟩
    have hx : ws[k]? = some _ := List.getElem?_eq_getElem (by omega)
    have T := Lib.hid (turn_drop hx w H.out)
    clear hx
    go_enter Try.func18, Try.ntmps18
    go_wp2_with (first | (go_at_call 30; refine (there_b _ H.out).mono ?_; rintro e w1 ⟨rfl, rfl⟩) | (go_at_call 33; refine T.out.mono ?_; rintro e w1 ⟨rfl, hB, hU⟩))
    go_ret
    exact ⟨rfl, hB, hU⟩
theorem own_b {ws : List WR} {s : WS} {b r : Nat} (n k : Int) (w : World) (h : BI w b r ws s) : Calls Try.prog 17 #[.pointer (some ⟨b, 0, none⟩), .int .i64 n, .int .i64 k] w fun e w' => e = .returned (.int .i64 (ownR ws n k)) ∧ BI w' b r (ownW ws n k) s ∧ Upd (fun i => i = r) w w' := by
  have H := Lib.hid (h.non (w' := w.alloc (.cells #[.int .i64 k] 3)) (Upd.refl _ _).alloc)
  have hr := h.lt
  clear h
  unfold ownR ownW
  by_cases hk : badW k
  · rw [if_pos hk, if_pos hk]
    go_enter Try.func17, Try.ntmps17
    go_wp2_with (first | (go_at_call 30; refine (there_b _ H.out).mono ?_; rintro e w1 ⟨rfl, rfl⟩))
    go_quiet ((first | (go_at_call 31; exact Calls.quiet_of_same (quiet_bad b k hk _))))
    go_wp2_with fail
    go_ret
    exact ⟨rfl, H.out.non (Upd.refl _ _).drewN, (Upd.refl _ _).alloc.drewN⟩
  · rw [if_neg hk, if_neg hk]
    obtain ⟨k, rfl, hk8⟩ := good_nat hk
    clear hk
    by_cases hn : n < 0 ∨ (ws.length : Int) ≤ n
    · rw [if_pos hn, show (match ws[n.toNat]? with
        | some x => if n < 0 then ws else ws.set n.toNat ⟨(k : Int), x.ln, false⟩
        | none => ws) = ws by
          split
          · rename_i x hx
            have := (List.getElem?_eq_some_iff.1 hx).1
            rw [if_pos (by omega)]
          · rfl]
      go_enter Try.func17, Try.ntmps17
      go_wp2_with (first | (go_at_call 30; refine (there_b _ H.out).mono ?_; rintro e w1 ⟨rfl, rfl⟩))
      go_quiet ((first | (go_at_call 31; exact Calls.quiet_of_same (quiet_is b k hk8 _))))
      have H2 := Lib.hid (H.out.non (w' := (w.alloc (.cells #[.int .i64 (k : Int)] 3)).drewN nq) (Upd.refl _ _).drewN)
      go_wp2_with (first | (go_at_call 33; refine (turn_no _ hn _ H2.out).mono ?_; rintro e w1 ⟨rfl, rfl⟩))
      go_ret
      exact ⟨rfl, H2.out, (Upd.refl _ _).alloc.drewN⟩
    · rw [if_neg hn]
      obtain ⟨j, rfl⟩ : ∃ j : Nat, n = j := ⟨n.toNat, by omega⟩
      obtain ⟨x, hx⟩ : ∃ x, ws[j]? = some x := ⟨_, List.getElem?_eq_getElem (by omega)⟩
      have HX := Lib.hid hx
      rw [show (match ws[(j : Int).toNat]? with
        | some x => if (j : Int) < 0 then ws else ws.set (j : Int).toNat ⟨(k : Int), x.ln, false⟩
        | none => ws) = ws.set j ⟨(k : Int), x.ln, false⟩ by
          simp only [Int.toNat_natCast, hx]
          exact if_neg (by omega)]
      clear hx hn
      go_enter Try.func17, Try.ntmps17
      go_wp2_with (first | (go_at_call 30; refine (there_b _ H.out).mono ?_; rintro e w1 ⟨rfl, rfl⟩))
      go_quiet ((first | (go_at_call 31; exact Calls.quiet_of_same (quiet_is b k hk8 _))))
      have H2 := Lib.hid (H.out.non (w' := (w.alloc (.cells #[.int .i64 (k : Int)] 3)).drewN nq) (Upd.refl _ _).drewN)
      have T := Lib.hid (turn_own (g := w.heap.size) (z := k) HX.out _ H2.out (Blk.cell (Blk.drewN (Blk.new w _ _)) 0 rfl) (by omega))
      go_wp2_with (first | (go_at_call 33; refine T.out.mono ?_; rintro e w1 ⟨rfl, hB, hU⟩))
      go_ret
      exact ⟨rfl, hB, Upd.call hU (S := fun i => i = r) (Upd.refl _ _).alloc.drewN fun _ _ h => h⟩
theorem route_b {ws : List WR} {s : WS} {b r : Nat} (n k : Int) (w : World) (h : BI w b r ws s) : Calls Try.prog 19 #[.pointer (some ⟨b, 0, none⟩), .int .i64 n, .int .i64 k] w fun e w' => e = .returned (.int .i64 (routeR ws n k)) ∧ BI w' b r (routeW ws n k) s ∧ Upd (fun i => i = r) w w' := by
  have H := Lib.hid (h.non (w' := w.alloc (.cells #[.int .i64 k] 3)) (Upd.refl _ _).alloc)
  have hr := h.lt
  clear h
  unfold routeR routeW
  by_cases hk : mayL k
  case neg =>
    rw [if_neg hk, if_neg hk]
    have hk2 : k < -1 ∨ 8 ≤ k := by unfold mayL at hk; omega
    go_enter Try.func19, Try.ntmps19
    go_wp2_with (first | (go_at_call 30; refine (there_b _ H.out).mono ?_; rintro e w1 ⟨rfl, rfl⟩) | (go_at_call 29; refine (may_no k hk2 _).mono ?_; rintro e w1 ⟨rfl, rfl⟩))
    go_ret
    exact ⟨rfl, H.out, (Upd.refl _ _).alloc⟩
  · rw [if_pos hk, if_pos hk]
    obtain ⟨hk1, hk2⟩ := hk
    by_cases hn : n < 0 ∨ (ws.length : Int) ≤ n
    · rw [if_pos hn, show (match ws[n.toNat]? with
        | some x => if n < 0 then ws else ws.set n.toNat ⟨x.ow, k, false⟩
        | none => ws) = ws by
          split
          · rename_i x hx
            have := (List.getElem?_eq_some_iff.1 hx).1
            rw [if_pos (by omega)]
          · rfl]
      go_enter Try.func19, Try.ntmps19
      go_wp2_with (first | (go_at_call 30; refine (there_b _ H.out).mono ?_; rintro e w1 ⟨rfl, rfl⟩) | (go_at_call 29; refine (may_yes k hk1 hk2 _).mono ?_; rintro e w1 ⟨rfl, rfl⟩) | (go_at_call 33; refine (turn_no _ hn _ H.out).mono ?_; rintro e w1 ⟨rfl, rfl⟩))
      go_ret
      exact ⟨rfl, H.out, (Upd.refl _ _).alloc⟩
    · rw [if_neg hn]
      obtain ⟨j, rfl⟩ : ∃ j : Nat, n = j := ⟨n.toNat, by omega⟩
      obtain ⟨x, hx⟩ : ∃ x, ws[j]? = some x := ⟨_, List.getElem?_eq_getElem (by omega)⟩
      have HX := Lib.hid hx
      rw [show (match ws[(j : Int).toNat]? with
        | some x => if (j : Int) < 0 then ws else ws.set (j : Int).toNat ⟨x.ow, k, false⟩
        | none => ws) = ws.set j ⟨x.ow, k, false⟩ by
          simp only [Int.toNat_natCast, hx]
          exact if_neg (by omega)]
      clear hx hn
      have T := Lib.hid (turn_route (g := w.heap.size) (z := k) HX.out _ H.out (Blk.cell (Blk.new w _ _) 0 rfl) (by omega))
      go_enter Try.func19, Try.ntmps19
      go_wp2_with (first | (go_at_call 30; refine (there_b _ H.out).mono ?_; rintro e w1 ⟨rfl, rfl⟩) | (go_at_call 29; refine (may_yes k hk1 hk2 _).mono ?_; rintro e w1 ⟨rfl, rfl⟩) | (go_at_call 33; refine T.out.mono ?_; rintro e w1 ⟨rfl, hB, hU⟩))
      go_ret
      exact ⟨rfl, hB, Upd.call hU (S := fun i => i = r) (Upd.refl _ _).alloc fun _ _ h => h⟩
/-- Line. -/
def lineR (ws : List WR) (n : Int) : Int := if n < 0 then -1 else match ws[n.toNat]? with
  | some x => x.ln
  | none => -1
theorem line_b {ws : List WR} {s : WS} {b r : Nat} (n : Int) (w : World) (h : BI w b r ws s) : Calls Try.prog 20 #[.pointer (some ⟨b, 0, none⟩), .int .i64 n] w fun e w' => e = .returned (.int .i64 (lineR ws n)) ∧ w = w' := by
  unfold lineR
  by_cases hn : n < 0
  · rw [if_pos hn]; exact line_no (.inl hn) w h
  · rw [if_neg hn]
    split
    · rename_i x hx
      rw [show n = ((n.toNat : Nat) : Int) by omega]
      exact line_yes hx w h
    · rename_i hx
      refine line_no (.inr ?_) w h
      have := List.getElem?_eq_none_iff.1 hx
      omega
end Go.Proofs.Ytkhhmkcpbefadaa
