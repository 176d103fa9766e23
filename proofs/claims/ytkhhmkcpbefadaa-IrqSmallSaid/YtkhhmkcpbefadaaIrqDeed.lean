/- A board and the document's, apart from one another, between two deeds. No condition. -/
import Derived.Test.YtkhhmkcpbefadaaIrqSame
namespace Go.Proofs.Ytkhhmkcpbefadaa
open Go.RowKit
/-- The cell at pc holds the board's pointer; the board lies in b and r, the document's in c and q; all are the call's own. -/
structure DS (w W : World) (pc b r c q : Nat) (p : List WR × WS) (f : Nat → Bool) : Prop where
  P : Blk W pc #[.pointer (some ⟨b, 0, none⟩)] 24
  B : BI W b r p.1 p.2
  R : RI W c q p.1 f
  bt : Bt p.2 f
  fit : Fit p.1 p.2
  up : Upd Non w W
  lp : w.heap.size ≤ pc
  lb : w.heap.size ≤ b
  lr : w.heap.size ≤ r
  lc : w.heap.size ≤ c
  lq : w.heap.size ≤ q
  ne : pc ≠ b ∧ pc ≠ r ∧ pc ≠ c ∧ pc ≠ q ∧ b ≠ c ∧ b ≠ q ∧ r ≠ c ∧ r ≠ q
section
variable {w W W' : World} {pc b r c q : Nat} {p p2 : List WR × WS} {f f2 : Nat → Bool}
theorem DS.non (h : DS w W pc b r c q p f) (u : Upd Non W W') : DS w W' pc b r c q p f :=
  ⟨Blk.upd u h.P id, h.B.non u, h.R.non u, h.bt, h.fit, Upd.call u h.up fun _ _ h => h, h.lp, h.lb, h.lr, h.lc, h.lq, h.ne⟩
/-- The board alone has turned. -/
structure DM (w W : World) (pc b r c q : Nat) (p p2 : List WR × WS) (f : Nat → Bool) : Prop where
  P : Blk W pc #[.pointer (some ⟨b, 0, none⟩)] 24
  B : BI W b r p2.1 p2.2
  R : RI W c q p.1 f
  bt : Bt p.2 f
  fit : Fit p2.1 p2.2
  up : Upd Non w W
  lp : w.heap.size ≤ pc
  lb : w.heap.size ≤ b
  lr : w.heap.size ≤ r
  lc : w.heap.size ≤ c
  lq : w.heap.size ≤ q
  ne : pc ≠ b ∧ pc ≠ r ∧ pc ≠ c ∧ pc ≠ q ∧ b ≠ c ∧ b ≠ q ∧ r ≠ c ∧ r ≠ q
theorem DS.board (h : DS w W pc b r c q p f) (hb : BI W' b r p2.1 p2.2) (hf : Fit p2.1 p2.2) (u : Upd (fun i => i = b ∨ i = r) W W') : DM w W' pc b r c q p p2 f := by
  obtain ⟨n1, n2, n3, n4, n5, n6, n7, n8⟩ := h.ne
  exact ⟨Blk.upd u h.P (fun e => e.elim n1 n2), hb, h.R.upd u (fun e => e.elim (fun e => n5 e.symm) (fun e => n7 e.symm)) (fun e => e.elim (fun e => n6 e.symm) (fun e => n8 e.symm)), h.bt, hf,
    Upd.call u h.up (fun i hi e => by have := h.lb; have := h.lr; rcases e with rfl | rfl <;> omega), h.lp, h.lb, h.lr, h.lc, h.lq, h.ne⟩
theorem DM.ref (h : DM w W pc b r c q p p2 f) (hr : RI W' c q p2.1 f2) (ht : Bt p2.2 f2) (u : Upd (fun i => i = c ∨ i = q) W W') : DS w W' pc b r c q p2 f2 := by
  obtain ⟨n1, n2, n3, n4, n5, n6, n7, n8⟩ := h.ne
  exact ⟨Blk.upd u h.P (fun e => e.elim n3 n4), h.B.upd u (fun e => e.elim n5 n6) (fun e => e.elim n7 n8), hr, ht, h.fit,
    Upd.call u h.up (fun i hi e => by have := h.lc; have := h.lq; rcases e with rfl | rfl <;> omega), h.lp, h.lb, h.lr, h.lc, h.lq, h.ne⟩
theorem ds_own (h : DS w W pc b r c q p f) (n v : Int) : Calls Try.prog 17 #[.pointer (some ⟨b, 0, none⟩), .int .i64 n, .int .i64 v] W fun e w' => e = .returned (.int .i64 (ownR p.1 n v)) ∧ DM w w' pc b r c q p (ownW p.1 n v, p.2) f ∧ Upd (fun i => i = b ∨ i = r) W w' :=
  (own_b n v W h.B).mono fun _ _ ⟨e, hb, hu⟩ => ⟨e, h.board (p2 := (ownW p.1 n v, p.2)) hb (h.fit.owned n v) (hu.mono fun _ _ h => .inr h), hu.mono fun _ _ h => .inr h⟩
theorem dm_own (n v : Int) (h : DM w W pc b r c q p (ownW p.1 n v, p.2) f) : Calls Try.prog 43 #[.pointer (some ⟨c, 0, none⟩), .int .i64 n, .int .i64 v] W fun e w' => e = .returned (.int .i64 (ownR p.1 n v)) ∧ DS w w' pc b r c q (ownW p.1 n v, p.2) f :=
  (rown_is n v W h.R).mono fun _ _ ⟨e, hb, hu⟩ => ⟨e, h.ref hb h.bt (hu.mono fun _ _ h => .inr h)⟩
theorem ds_drop (h : DS w W pc b r c q p f) (n : Int) : Calls Try.prog 18 #[.pointer (some ⟨b, 0, none⟩), .int .i64 n] W fun e w' => e = .returned (.int .i64 (dropR p.1 n)) ∧ DM w w' pc b r c q p (dropW p.1 n, p.2) f ∧ Upd (fun i => i = b ∨ i = r) W w' :=
  (drop_b n W h.B).mono fun _ _ ⟨e, hb, hu⟩ => ⟨e, h.board (p2 := (dropW p.1 n, p.2)) hb (h.fit.dropped n) (hu.mono fun _ _ h => .inr h), hu.mono fun _ _ h => .inr h⟩
theorem dm_drop (n : Int) (h : DM w W pc b r c q p (dropW p.1 n, p.2) f) : Calls Try.prog 44 #[.pointer (some ⟨c, 0, none⟩), .int .i64 n] W fun e w' => e = .returned (.int .i64 (dropR p.1 n)) ∧ DS w w' pc b r c q (dropW p.1 n, p.2) f :=
  (rdrop_is n W h.R).mono fun _ _ ⟨e, hb, hu⟩ => ⟨e, h.ref hb h.bt (hu.mono fun _ _ h => .inr h)⟩
theorem ds_route (h : DS w W pc b r c q p f) (n v : Int) : Calls Try.prog 19 #[.pointer (some ⟨b, 0, none⟩), .int .i64 n, .int .i64 v] W fun e w' => e = .returned (.int .i64 (routeR p.1 n v)) ∧ DM w w' pc b r c q p (routeW p.1 n v, p.2) f ∧ Upd (fun i => i = b ∨ i = r) W w' :=
  (route_b n v W h.B).mono fun _ _ ⟨e, hb, hu⟩ => ⟨e, h.board (p2 := (routeW p.1 n v, p.2)) hb (h.fit.routed n v) (hu.mono fun _ _ h => .inr h), hu.mono fun _ _ h => .inr h⟩
theorem dm_route (n v : Int) (h : DM w W pc b r c q p (routeW p.1 n v, p.2) f) : Calls Try.prog 45 #[.pointer (some ⟨c, 0, none⟩), .int .i64 n, .int .i64 v] W fun e w' => e = .returned (.int .i64 (routeR p.1 n v)) ∧ DS w w' pc b r c q (routeW p.1 n v, p.2) f :=
  (rroute_is n v W h.R).mono fun _ _ ⟨e, hb, hu⟩ => ⟨e, h.ref hb h.bt (hu.mono fun _ _ h => .inr h)⟩
theorem ds_mask (h : DS w W pc b r c q p f) {k m : Nat} (hk : k < 8) (hm : m < 256) : Calls Try.prog 11 #[.pointer (some ⟨b, 0, none⟩), .int .i64 k, .int .u8 m] W fun e w' => e = .returned (.int .i64 0) ∧ DM w w' pc b r c q p (p.1, p.2.setL k m) f ∧ Upd (fun i => i = b ∨ i = r) W w' :=
  (mask_b hk W h.B).mono fun _ _ ⟨e, hb, hu⟩ => ⟨e, h.board (p2 := (p.1, p.2.setL k m)) hb (h.fit.setL hm) (hu.mono fun _ _ h => .inl h), hu.mono fun _ _ h => .inl h⟩
theorem dm_mask {k m : Nat} (hk : k < 8) (h : DM w W pc b r c q p (p.1, p.2.setL k m) f) : Calls Try.prog 46 #[.pointer (some ⟨c, 0, none⟩), .int .i64 k, .int .u8 m] W fun e w' => e = .returned (.int .i64 0) ∧ ∃ f', DS w w' pc b r c q (p.1, p.2.setL k m) f' :=
  (rmask_is hk h.bt W h.R).mono fun _ _ ⟨e, ⟨f', hb, ht⟩, hu⟩ => ⟨e, f', h.ref hb ht (hu.mono fun _ _ h => .inl h)⟩
theorem ds_call (h : DS w W pc b r c q p f) {k : Nat} (hk : k < 8) : Calls Try.prog 14 #[.pointer (some ⟨b, 0, none⟩), .int .i64 k] W fun e w' => e = .returned (.tuple #[.int .i64 (callR p.2 k).1, .bool (callR p.2 k).2]) ∧ DM w w' pc b r c q p (p.1, callS p.2 k) f ∧ Upd (fun i => i = b ∨ i = r) W w' :=
  (call_b hk h.fit W h.B).mono fun _ _ ⟨e, hb, hu⟩ => ⟨e, h.board (p2 := (p.1, callS p.2 k)) hb h.fit.called (hu.mono fun _ _ h => .inl h), hu.mono fun _ _ h => .inl h⟩
theorem dm_call {k : Nat} (hk : k < 8) (hf : Fit p.1 p.2) (h : DM w W pc b r c q p (p.1, callS p.2 k) f) : Calls Try.prog 47 #[.pointer (some ⟨c, 0, none⟩), .int .i64 k] W fun e w' => e = .returned (.tuple #[.int .i64 (callR p.2 k).1, .bool (callR p.2 k).2]) ∧ ∃ f', DS w w' pc b r c q (p.1, callS p.2 k) f' :=
  (rcall_is hk h.bt (hf.wt k) (hf.le k) W h.R).mono fun _ _ ⟨e, ⟨f', hb, ht⟩, hu⟩ => ⟨e, f', h.ref hb ht (hu.mono fun _ _ h => .inl h)⟩
theorem dmu_own (n v : Int) (h : DM w W pc b r c q p (ownW p.1 n v, p.2) f) : Calls Try.prog 43 #[.pointer (some ⟨c, 0, none⟩), .int .i64 n, .int .i64 v] W fun e w' => e = .returned (.int .i64 (ownR p.1 n v)) ∧ DS w w' pc b r c q (ownW p.1 n v, p.2) f ∧ Upd (fun i => i = c ∨ i = q) W w' :=
  (rown_is n v W h.R).mono fun _ _ ⟨e, hb, hu⟩ => ⟨e, h.ref hb h.bt (hu.mono fun _ _ h => .inr h), hu.mono fun _ _ h => .inr h⟩
theorem dmu_route (n v : Int) (h : DM w W pc b r c q p (routeW p.1 n v, p.2) f) : Calls Try.prog 45 #[.pointer (some ⟨c, 0, none⟩), .int .i64 n, .int .i64 v] W fun e w' => e = .returned (.int .i64 (routeR p.1 n v)) ∧ DS w w' pc b r c q (routeW p.1 n v, p.2) f ∧ Upd (fun i => i = c ∨ i = q) W w' :=
  (rroute_is n v W h.R).mono fun _ _ ⟨e, hb, hu⟩ => ⟨e, h.ref hb h.bt (hu.mono fun _ _ h => .inr h), hu.mono fun _ _ h => .inr h⟩
theorem dmu_mask {k m : Nat} (hk : k < 8) (h : DM w W pc b r c q p (p.1, p.2.setL k m) f) : Calls Try.prog 46 #[.pointer (some ⟨c, 0, none⟩), .int .i64 k, .int .u8 m] W fun e w' => e = .returned (.int .i64 0) ∧ (∃ f', DS w w' pc b r c q (p.1, p.2.setL k m) f') ∧ Upd (fun i => i = c ∨ i = q) W w' :=
  (rmask_is hk h.bt W h.R).mono fun _ _ ⟨e, ⟨f', hb, ht⟩, hu⟩ => ⟨e, ⟨f', h.ref hb ht (hu.mono fun _ _ h => .inl h)⟩, hu.mono fun _ _ h => .inl h⟩
end
end Go.Proofs.Ytkhhmkcpbefadaa
