/- The fifo's functions over the things that are there. Conditions: the fifo is one whose blocks are known. -/
import Derived.Test.YtmblplhehbdocaaFifoPut2
namespace Go.Proofs.Ytmblplhehbdocaa
open Go.RowKit

/-- At block b lies a fifo of these things, with room for m; its ring is block g. -/
def FI (w : World) (b : Nat) (xs : List Int) (m g : Nat) : Prop := ∃ s : FS, FBlk w b s ∧ s.ok ∧ s.xs = xs ∧ s.most = m ∧ s.g = g ∧ s.g < w.heap.size
theorem FI.lt {w : World} {b m g : Nat} {xs : List Int} (h : FI w b xs m g) : b < w.heap.size := by
  obtain ⟨s, h, _⟩ := h
  exact h.lt
theorem FI.upd {S : Nat → Prop} {w w' : World} {b m g : Nat} {xs : List Int} (u : Upd S w w') (h : FI w b xs m g) (hb : ¬ S b) (hg : ¬ S g) : FI w' b xs m g := by
  obtain ⟨s, h, ok, h1, h2, h3, h4⟩ := h
  exact ⟨s, h.upd u hb (fun _ => by rw [h3]; exact hg), ok, h1, h2, h3, Nat.lt_of_lt_of_le h4 u.size⟩
theorem FI.non {w w' : World} {b m g : Nat} {xs : List Int} (u : Upd Non w w') (h : FI w b xs m g) : FI w' b xs m g := h.upd u id id
theorem FI.new (m : Nat) (hm : m ≤ maxI) (w : World) : FI (w.alloc (.cells (FS.fresh m w.heap.size).enc 123)) w.heap.size [] m w.heap.size :=
  ⟨FS.fresh m w.heap.size, ⟨Blk.new _ _ _, fun h => absurd h (Nat.lt_irrefl 0)⟩, FS.fresh_ok hm, rfl, rfl, rfl, by rw [World.size_alloc]; exact Nat.lt_succ_self _⟩
theorem FI.le {w : World} {b m g : Nat} {xs : List Int} (h : FI w b xs m g) : xs.length ≤ m ∧ xs.length ≤ 5000 ∧ m ≤ maxI := by
  obtain ⟨s, h, ok, rfl, rfl, h3⟩ := h
  have h1 := ok.le
  have h2 := ok.lm
  have h4 := ok.l5
  exact ⟨by omega, by omega, ok.mm⟩

theorem FI.glt {w : World} {b m g : Nat} {xs : List Int} (h : FI w b xs m g) : g < w.heap.size := by
  obtain ⟨s, _, _, _, _, rfl, h⟩ := h
  exact h
theorem FI.ring {w : World} {b m g : Nat} {xs : List Int} (h : FI w b xs m g) (hx : 0 < xs.length) : g < w.heap.size ∧ g ≠ b := by
  obtain ⟨s, h, ok, rfl, rfl, rfl, _⟩ := h
  have hL : 0 < s.L := by have := ok.le; omega
  exact ⟨(h.2 hL).1.lt, (h.2 hL).2⟩
theorem new_any (m : Nat) (hm : m ≤ maxI) (w : World) : Calls Try.prog 22 #[.int .i64 m] w fun e w' => e = .returned (.pointer (some ⟨w.heap.size, 0, none⟩)) ∧ FI w' w.heap.size [] m w.heap.size ∧ Upd Non w w' :=
  (new_spec m w).mono fun e w' ⟨he, hw⟩ => ⟨he, by rw [hw]; exact FI.new m hm w, by rw [hw]; exact (Upd.refl _ _).alloc⟩
theorem len_any {b m g : Nat} {xs : List Int} (w : World) (h : FI w b xs m g) : Calls Try.prog 24 #[.pointer (some ⟨b, 0, none⟩)] w fun e w' => e = .returned (.int .i64 xs.length) ∧ w = w' := by
  obtain ⟨s, h, ok, rfl, rfl, h3⟩ := h
  exact len_spec s b w h
theorem left_any {b m g : Nat} {xs : List Int} (w : World) (h : FI w b xs m g) : Calls Try.prog 25 #[.pointer (some ⟨b, 0, none⟩)] w fun e w' => e = .returned (.int .i64 ((m : Int) - xs.length)) ∧ ∃ k, w' = w.drewN k := by
  obtain ⟨s, h, ok, rfl, rfl, h3⟩ := h
  exact left_spec s b ok w h
theorem first_any {b m g : Nat} {xs : List Int} (w : World) (h : FI w b xs m g) : Calls Try.prog 26 #[.pointer (some ⟨b, 0, none⟩)] w fun e w' => e = .returned (.tuple #[.int .i64 (headI xs), .bool (someI xs)]) ∧ ∃ k, w' = w.drewN k := by
  obtain ⟨s, h, ok, rfl, rfl, h3⟩ := h
  exact first_spec s b ok w h
theorem take_any05 {b m g : Nat} {xs : List Int} (w : World) (h : FI w b xs m g) :
    Calls Try.prog 27 #[.pointer (some ⟨b, 0, none⟩)] w fun e w' => e = .returned (.tuple #[.int .i64 (headI xs), .bool (someI xs)]) ∧ FI w' b xs.tail m g ∧ Upd (fun i => i = b) w w' := by
  obtain ⟨s, h, ok, hx, rfl, rfl, hgl⟩ := h
  cases xs with
  | nil =>
    refine (take_no05 s b ok hx w h).mono ?_
    rintro e w' ⟨rfl, k, rfl⟩
    exact ⟨rfl, ⟨s, h.drewN, ok, hx, rfl, rfl, hgl⟩, (Upd.refl _ _).drewN⟩
  | cons v l =>
    refine (take_some05 s b v l ok hx w h).mono ?_
    rintro e w' ⟨rfl, hb, hU⟩
    have hL : 0 < s.L := by have := ok.le; rw [hx] at this; simp at this; omega
    exact ⟨rfl, ⟨s.take, hb, FS.take_ok ok hL, by show s.xs.tail = _; rw [hx], rfl, rfl, Nat.lt_of_lt_of_le hgl hU.size⟩, hU⟩
theorem put_any05 {b m g : Nat} {xs : List Int} (v : Int) (hn : xs.length ≤ 2000) (w : World) (h : FI w b xs m g) :
    Calls Try.prog 23 #[.pointer (some ⟨b, 0, none⟩), .int .i64 v] w fun e w' => e = .returned (.bool (decide (xs.length < m))) ∧
      (∃ g', (g' = g ∨ w.heap.size ≤ g') ∧ FI w' b (if xs.length < m then xs ++ [v] else xs) m g') ∧ Upd (fun i => i = b ∨ i = g) w w' := by
  obtain ⟨s, h, ok, rfl, rfl, rfl, hgl⟩ := h
  by_cases hlt : s.xs.length < s.most
  · rw [decide_eq_true hlt, if_pos hlt]
    refine (put_room s b v ok hlt hn w h).mono ?_
    rintro e w' ⟨rfl, hU, s', hb, ok', hx, hm, hg⟩
    exact ⟨rfl, ⟨s'.g, hg, ⟨s', hb, ok', hx, hm, rfl, (hb.2 (by have := ok'.le; rw [hx] at this; simp at this; omega)).1.lt⟩⟩, hU⟩
  · rw [decide_eq_false hlt, if_neg hlt]
    have h1 := ok.le
    have h2 := ok.lm
    refine (put_full s b v ok (by omega) w h).mono ?_
    rintro e w' ⟨rfl, k, rfl⟩
    exact ⟨rfl, ⟨s.g, .inl rfl, ⟨s, h.drewN, ok, rfl, rfl, rfl, hgl⟩⟩, (Upd.refl _ _).drewN⟩
end Go.Proofs.Ytmblplhehbdocaa
