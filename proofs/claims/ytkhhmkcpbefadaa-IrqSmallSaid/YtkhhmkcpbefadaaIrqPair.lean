/- Two boards and a row of owners, apart from one another: what each call leaves. No condition. -/
import Derived.Test.YtkhhmkcpbefadaaIrqApartPlain
import Derived.Test.YtkhhmkcpbefadaaIrqSize
import Derived.Test.YtkhhmkcpbefadaaIrqOrderLaw
import Derived.Test.YtkhhmkcpbefadaaTail
namespace Go.Proofs.Ytkhhmkcpbefadaa
open Go.RowKit
def owI (os : List Int) : Array Value := (os.map (Value.int .i64)).toArray
theorem owI_at {os : List Int} {i : Nat} {z : Int} (h : os[i]? = some z) : (owI os)[i]? = some (.int .i64 z) := by simp [owI, h]
theorem owI_set (os : List Int) (i : Nat) (z : Int) : (owI os).setIfInBounds i (.int .i64 z) = owI (os.set i z) := by simp [owI, List.map_set]
structure AQ (w W : World) (b r c q g : Nat) (p s : List WR × WS) (os : List Int) : Prop where
  B : AW w W b r p
  C : AW w W c q s
  O : Blk W g (owI os) 3
  lg : w.heap.size ≤ g
  bc : b ≠ c
  bq : b ≠ q
  rc : r ≠ c
  rq : r ≠ q
  gb : g ≠ b
  gr : g ≠ r
  gc : g ≠ c
  gq : g ≠ q
section
variable {w W : World} {b r c q g : Nat} {p s : List WR × WS} {os : List Int}
theorem AQ.swap (h : AQ w W b r c q g p s os) : AQ w W c q b r g s p os := ⟨h.C, h.B, h.O, h.lg, h.bc.symm, h.rc.symm, h.bq.symm, h.rq.symm, h.gc, h.gq, h.gb, h.gr⟩
theorem AQ.non {W' : World} (h : AQ w W b r c q g p s os) (u : Upd Non W W') : AQ w W' b r c q g p s os := ⟨h.B.non u, h.C.non u, Blk.upd u h.O id, h.lg, h.bc, h.bq, h.rc, h.rq, h.gb, h.gr, h.gc, h.gq⟩
theorem AQ.step {W' : World} {p2 : List WR × WS} (h : AQ w W b r c q g p s os) (hb : BI W' b r p2.1 p2.2) (hf : Fit p2.1 p2.2) (u : Upd (fun i => i = b ∨ i = r) W W') : AQ w W' b r c q g p2 s os :=
  ⟨h.B.to hb hf u, ⟨h.C.bi.upd u (fun e => e.elim (fun e => h.bc e.symm) (fun e => h.rc e.symm)) (fun e => e.elim (fun e => h.bq e.symm) (fun e => h.rq e.symm)), (h.B.to hb hf u).up, h.C.lb, h.C.lr, h.C.fit⟩,
    Blk.upd u h.O (fun e => e.elim h.gb h.gr), h.lg, h.bc, h.bq, h.rc, h.rq, h.gb, h.gr, h.gc, h.gq⟩
theorem AQ.own (h : AQ w W b r c q g p s os) (i : Nat) (z : Int) : AQ w (W.setCell ⟨g, i, none⟩ (.int .i64 z)) b r c q g p s (os.set i z) := by
  have u : Upd (fun i => i = g) W (W.setCell ⟨g, i, none⟩ (.int .i64 z)) := (Upd.refl _ _).setCell (.inl rfl)
  have hu : Upd Non w (W.setCell ⟨g, i, none⟩ (.int .i64 z)) := Upd.call u h.B.up (fun j hj e => by have := h.lg; omega)
  exact ⟨⟨h.B.bi.upd u (fun e => h.gb e.symm) (fun e => h.gr e.symm), hu, h.B.lb, h.B.lr, h.B.fit⟩, ⟨h.C.bi.upd u (fun e => h.gc e.symm) (fun e => h.gq e.symm), hu, h.C.lb, h.C.lr, h.C.fit⟩,
    Blk.eq (Blk.set h.O) (owI_set _ _ _), h.lg, h.bc, h.bq, h.rc, h.rq, h.gb, h.gr, h.gc, h.gq⟩
theorem AQ.cell (h : AQ w W b r c q g p s os) {i : Nat} {z : Int} (hz : os[i]? = some z) : W.cell? ⟨g, i, none⟩ = some (.int .i64 z) := h.O.cell i (owI_at hz)
theorem AQ.far {W' : World} {x : Nat} (h : AQ w W b r c q g p s os) (u : Upd (fun i => i = x) W W') (hb : x ≠ b) (hr : x ≠ r) (hc : x ≠ c) (hq : x ≠ q) (hg : x ≠ g) (hx : w.heap.size ≤ x) : AQ w W' b r c q g p s os := by
  have hu : Upd Non w W' := Upd.call u h.B.up (fun j hj e => by omega)
  exact ⟨⟨h.B.bi.upd u (fun e => hb e.symm) (fun e => hr e.symm), hu, h.B.lb, h.B.lr, h.B.fit⟩, ⟨h.C.bi.upd u (fun e => hc e.symm) (fun e => hq e.symm), hu, h.C.lb, h.C.lr, h.C.fit⟩,
    Blk.upd u h.O (fun e => hg e.symm), h.lg, h.bc, h.bq, h.rc, h.rq, h.gb, h.gr, h.gc, h.gq⟩
def lookZ (p : List WR × WS) (n : Nat) : Int := if n = p.1.length then 0 else 2
def lookP (p : List WR × WS) (LV : Nat → Bool) (n : Nat) : List WR × WS := if n = p.1.length then lookR LV p n else p
theorem lookP_ows (p : List WR × WS) (LV : Nat → Bool) (n : Nat) : ows (lookP p LV n).1 = ows p.1 := by
  unfold lookP
  split
  · exact lookR_ows LV p n
  · rfl
theorem AQ.lookd {LV : Nat → Bool} {n : Nat} (h : AQ w W b r c q g (lookP p LV n) s (ows p.1)) : AQ w W b r c q g (lookP p LV n) s (ows (lookP p LV n).1) := by rw [lookP_ows]; exact h
theorem aw_lookA (h : AW w W b r p) {n : Nat} (hn2 : n ≤ 100000) (A : Option Addr) (cc : Nat) (LV : Nat → Bool)
    (hl : 0 < n → ∃ g o, A = some ⟨g, o, none⟩ ∧ g ≠ b ∧ g ≠ r ∧ ∀ i, i < n → W.cell? ⟨g, o + i, none⟩ = some (.bool (LV i))) :
    Calls Try.prog 12 #[.pointer (some ⟨b, 0, none⟩), .slice A n cc] W fun e w' => e = .returned (.int .i64 (lookZ p n)) ∧ BI w' b r (lookP p LV n).1 (lookP p LV n).2 ∧ Fit (lookP p LV n).1 (lookP p LV n).2 ∧ Upd (fun i => i = b ∨ i = r) W w' := by
  unfold lookZ lookP
  by_cases hn : n = p.1.length
  · rw [if_pos hn, if_pos hn]
    subst hn
    exact (look_b A cc LV hn2 W h.fit h.bi hl).mono fun _ _ ⟨e, hb, hu⟩ => ⟨e, hb, lookR_fit LV h.fit _, hu⟩
  · rw [if_neg hn, if_neg hn]
    exact (look_bad A n cc hn W h.bi).mono fun _ _ ⟨e, hu⟩ => hu ▸ ⟨e, h.bi, h.fit, Upd.refl _ _⟩
theorem aq_look (h : AQ w W b r c q g p s os) {n : Nat} (hn2 : n ≤ 100000) (A : Option Addr) (cc : Nat) (LV : Nat → Bool)
    (hl : 0 < n → ∃ g o, A = some ⟨g, o, none⟩ ∧ g ≠ b ∧ g ≠ r ∧ ∀ i, i < n → W.cell? ⟨g, o + i, none⟩ = some (.bool (LV i))) :
    Calls Try.prog 12 #[.pointer (some ⟨b, 0, none⟩), .slice A n cc] W fun e w' => e = .returned (.int .i64 (lookZ p n)) ∧ AQ w w' b r c q g (lookP p LV n) s os ∧ Upd (fun i => i = b ∨ i = r) W w' :=
  (aw_lookA h.B hn2 A cc LV hl).mono fun _ _ ⟨e, hb, hf, hu⟩ => ⟨e, h.step hb hf hu, hu⟩
theorem aq_own (h : AQ w W b r c q g p s os) (n v : Int) : Calls Try.prog 17 #[.pointer (some ⟨b, 0, none⟩), .int .i64 n, .int .i64 v] W fun e w' => e = .returned (.int .i64 (ownR p.1 n v)) ∧ AQ w w' b r c q g (ownW p.1 n v, p.2) s os ∧ Upd (fun i => i = b ∨ i = r) W w' :=
  (own_b n v W h.B.bi).mono fun _ _ ⟨e, hb, hu⟩ => ⟨e, h.step (p2 := (ownW p.1 n v, p.2)) hb (h.B.fit.owned n v) (hu.mono fun _ _ h => .inr h), hu.mono fun _ _ h => .inr h⟩
theorem aq_drop (h : AQ w W b r c q g p s os) (n : Int) : Calls Try.prog 18 #[.pointer (some ⟨b, 0, none⟩), .int .i64 n] W fun e w' => e = .returned (.int .i64 (dropR p.1 n)) ∧ AQ w w' b r c q g (dropW p.1 n, p.2) s os ∧ Upd (fun i => i = b ∨ i = r) W w' :=
  (drop_b n W h.B.bi).mono fun _ _ ⟨e, hb, hu⟩ => ⟨e, h.step (p2 := (dropW p.1 n, p.2)) hb (h.B.fit.dropped n) (hu.mono fun _ _ h => .inr h), hu.mono fun _ _ h => .inr h⟩
theorem aq_route (h : AQ w W b r c q g p s os) (n v : Int) : Calls Try.prog 19 #[.pointer (some ⟨b, 0, none⟩), .int .i64 n, .int .i64 v] W fun e w' => e = .returned (.int .i64 (routeR p.1 n v)) ∧ AQ w w' b r c q g (routeW p.1 n v, p.2) s os ∧ Upd (fun i => i = b ∨ i = r) W w' :=
  (route_b n v W h.B.bi).mono fun _ _ ⟨e, hb, hu⟩ => ⟨e, h.step (p2 := (routeW p.1 n v, p.2)) hb (h.B.fit.routed n v) (hu.mono fun _ _ h => .inr h), hu.mono fun _ _ h => .inr h⟩
theorem aq_mask (h : AQ w W b r c q g p s os) {k m : Nat} (hk : k < 8) (hm : m < 256) : Calls Try.prog 11 #[.pointer (some ⟨b, 0, none⟩), .int .i64 k, .int .u8 m] W fun e w' => e = .returned (.int .i64 0) ∧ AQ w w' b r c q g (p.1, p.2.setL k m) s os ∧ Upd (fun i => i = b ∨ i = r) W w' :=
  (mask_b hk W h.B.bi).mono fun _ _ ⟨e, hb, hu⟩ => ⟨e, h.step (p2 := (p.1, p.2.setL k m)) hb (h.B.fit.setL hm) (hu.mono fun _ _ h => .inl h), hu.mono fun _ _ h => .inl h⟩
theorem aq_call (h : AQ w W b r c q g p s os) {k : Nat} (hk : k < 8) : Calls Try.prog 14 #[.pointer (some ⟨b, 0, none⟩), .int .i64 k] W fun e w' => e = .returned (.tuple #[.int .i64 (callR p.2 k).1, .bool (callR p.2 k).2]) ∧ AQ w w' b r c q g (p.1, callS p.2 k) s os ∧ Upd (fun i => i = b ∨ i = r) W w' :=
  (call_b hk h.B.fit W h.B.bi).mono fun _ _ ⟨e, hb, hu⟩ => ⟨e, h.step (p2 := (p.1, callS p.2 k)) hb h.B.fit.called (hu.mono fun _ _ h => .inl h), hu.mono fun _ _ h => .inl h⟩
end
theorem byte_of (z : Int) : ∃ m : Nat, IntKind.u8.wrap z = m ∧ m < 256 := by
  rw [IntKind.wrap_u8]
  exact ⟨(z % 256).toNat, by omega, by omega⟩
end Go.Proofs.Ytkhhmkcpbefadaa
