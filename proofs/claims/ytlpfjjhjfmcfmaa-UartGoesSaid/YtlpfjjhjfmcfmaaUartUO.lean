/- A uart, and rows of what was put, of what was taken. No condition. -/
import Derived.Test.YtlpfjjhjfmcfmaaUartAwake
import Derived.Test.YtlpfjjhjfmcfmaaGRow
import Derived.Deep.Cut
import Derived.Deep.CutBlock
namespace Go.Proofs.Ytlpfjjhjfmcfmaa
open Go.RowKit
theorem Try.info5b : (Try.prog.info? 5).map (fun i => (i.zero, i.size, i.bytes)) = some (some (.int .u8 0), 1, 1) := by kernel_rfl
/-- A row of bytes of the call's own. -/
abbrev BRow (w : World) (base : Nat) (v : Value) (xs : List Int) : Prop := w.ownsRow base 5 1 v xs.length (xs.map (Value.int .u8))
theorem brow_nil (w : World) (base : Nat) : BRow w base (.slice none 0 0) [] := World.ownsRow_nil _ _ _ _
theorem brow_at {w : World} {base c : Nat} {A : Option Addr} {xs : List Int} (h : BRow w base (.slice A xs.length c) xs) : 0 < xs.length → ∃ b o, A = some ⟨b, o, none⟩ ∧ b < w.heap.size ∧ ∀ j, j < xs.length → w.cell? ⟨b, o + j, none⟩ = some (.int .u8 (xs.getD j 0)) := by
  intro hn
  obtain ⟨A', c', e, hc⟩ := own_cells h
  obtain ⟨g, rfl, _, hl, _, h8⟩ := hc hn
  cases e
  refine ⟨g, 0, rfl, hl, fun j hj => ?_⟩
  rw [Nat.zero_add]
  refine h8 j _ ?_
  rw [List.getElem?_map, List.getD_eq_getElem?_getD, List.getElem?_eq_getElem hj]
  rfl
/-- A uart, and what was put, what was taken. -/
structure UO (w W : World) (b f g h k : Nat) (s : US) (pv : Value) (P : List Int) (gv : Value) (G : List Int) : Prop where
  x : UX w W b f g h k s
  p : BRow W w.heap.size pv P
  q : BRow W w.heap.size gv G
  fp : ∀ i, pv.ownBlock = some i → ¬ UB.blocks b f g h k i
  fq : ∀ i, gv.ownBlock = some i → ¬ UB.blocks b f g h k i
  pq : Far pv gv
section
variable {w W W' : World} {b f g h k : Nat} {s s' : US} {pv gv v' : Value} {P G : List Int}
theorem UO.non (o : UO w W b f g h k s pv P gv G) (u : Upd Non W W') : UO w W' b f g h k s pv P gv G := ⟨o.x.non u, own_upd u o.p (fun _ _ => id), own_upd u o.q (fun _ _ => id), o.fp, o.fq, o.pq⟩
theorem UO.uw (o : UO w W b f g h k s pv P gv G) (m : UW W W' b f g h k s') : ∃ g' k', UO w W' b f g' h k' s' pv P gv G := by
  obtain ⟨g', k', hg, hk, hx⟩ := o.x.uw m
  have nf : ∀ {v : Value} {xs : List Int}, BRow W w.heap.size v xs → (∀ i, v.ownBlock = some i → ¬ UB.blocks b f g h k i) → ∀ i, v.ownBlock = some i → ¬ UB.blocks b f g' h k' i := fun hv hf i hi e => by
    have h1 := hf i hi
    have h2 := (own_block hv i hi).2
    rcases e with e | e | e | e | e
    · exact h1 (.inl e)
    · exact h1 (.inr (.inl e))
    · rcases hg with hg | hg
      · exact h1 (.inr (.inr (.inl (e.trans hg))))
      · omega
    · exact h1 (.inr (.inr (.inr (.inl e))))
    · rcases hk with hk | hk
      · exact h1 (.inr (.inr (.inr (.inr (e.trans hk)))))
      · omega
  exact ⟨g', k', hx, own_upd m.u o.p o.fp, own_upd m.u o.q o.fq, nf o.p o.fp, nf o.q o.fq, o.pq⟩
theorem UO.grow_up (o : UO w W b f g h k s pv P gv G) {u : Value} {xs : List Int} (hu : BRow W w.heap.size u xs) (hg : W.grownBy W' u.ownBlock) (hf : ∀ i, u.ownBlock = some i → ¬ UB.blocks b f g h k i) : UX w W' b f g h k s := by
  have uu : Upd (fun i => u.ownBlock = some i) W W' := Upd.grown hg (Upd.refl _ _) (fun r hr => .inl hr)
  exact ⟨o.x.m.upd uu (fun i hi e => hf i e hi), Upd.call uu o.x.up (fun i hi e => by have := (own_block hu i e).1; omega), o.x.lo⟩
theorem UO.newb (o : UO w W b f g h k s pv P gv G) {i : Nat} (hi : W.heap.size ≤ i) : ¬ UB.blocks b f g h k i := fun e => by
  have := o.x.m.lt
  rcases e with e | e | e | e | e <;> omega
theorem UO.put (o : UO w W b f g h k s pv P gv G) {y : Int} (hv : BRow W' w.heap.size v' (P ++ [y])) (hg : W.grownBy W' pv.ownBlock) (hb : v'.ownBlock = pv.ownBlock ∨ v'.ownBlock = some W.heap.size) : UO w W' b f g h k s v' (P ++ [y]) gv G := by
  refine ⟨o.grow_up o.p hg o.fp, hv, own_grown hg o.q (fun i hi e => o.pq i e hi), fun i hi => ?_, o.fq, Far.grow o.pq hb o.q⟩
  rcases hb with e | e
  · exact o.fp i (e ▸ hi)
  · rw [e] at hi; cases hi; exact o.newb (Nat.le_refl _)
theorem UO.got (o : UO w W b f g h k s pv P gv G) {y : Int} (hv : BRow W' w.heap.size v' (G ++ [y])) (hg : W.grownBy W' gv.ownBlock) (hb : v'.ownBlock = gv.ownBlock ∨ v'.ownBlock = some W.heap.size) : UO w W' b f g h k s pv P v' (G ++ [y]) := by
  refine ⟨o.grow_up o.q hg o.fq, own_grown hg o.p (fun i hi e => o.pq i hi e), hv, o.fp, fun i hi => ?_, (Far.grow o.pq.symm hb o.p).symm⟩
  rcases hb with e | e
  · exact o.fq i (e ▸ hi)
  · rw [e] at hi; cases hi; exact o.newb (Nat.le_refl _)
end
/-- A row of bytes, as a statement's argument. -/
def BytesAt (w : World) (A : Option Addr) (n : Nat) (X : Nat → Int) : Prop := (0 < n → ∃ b o, A = some ⟨b, o, none⟩ ∧ ∀ j, j < n → w.cell? ⟨b, o + j, none⟩ = some (.int .u8 (X j))) ∧ ∀ j, j < n → 0 ≤ X j ∧ X j < 256
end Go.Proofs.Ytlpfjjhjfmcfmaa
