/- The document's fifo, and the program's Clear. Conditions: the blocks are known, of at most 2000 things. -/
import Derived.Test.YtmblplhehbdocaaFifoAll
import Derived.Test.YtmblplhehbdocaaFifoOrderLaw
import Derived.Test.YtmblplhehbdocaaORow
import Derived.Test.YtmblplhehbdocaaPick
namespace Go.Proofs.Ytmblplhehbdocaa
open Go.RowKit

/-- At block rr lies the document's fifo of these things, with room for m; its row is block r. -/
def RF (w : World) (base rr : Nat) (xs : List Int) (m r : Nat) : Prop := ∃ v, Blk w rr #[.int .i64 m, v] 91 ∧ ORow w base v xs r ∧ rr ≠ r
theorem RF.upd {S : Nat → Prop} {w w' : World} {base rr m r : Nat} {xs : List Int} (u : Upd S w w') (h : RF w base rr xs m r) (h1 : ¬ S rr) (h2 : ¬ S r) : RF w' base rr xs m r := by
  obtain ⟨v, hb, ho, hne⟩ := h
  exact ⟨v, Blk.upd u hb h1, ho.upd u h2, hne⟩
theorem RF.non {w w' : World} {base rr m r : Nat} {xs : List Int} (u : Upd Non w w') (h : RF w base rr xs m r) : RF w' base rr xs m r := h.upd u id id
theorem RF.lt {w : World} {base rr m r : Nat} {xs : List Int} (h : RF w base rr xs m r) : rr < w.heap.size ∧ r < w.heap.size ∧ rr ≠ r ∧ base ≤ r := by
  obtain ⟨v, hb, ho, hne⟩ := h
  exact ⟨hb.lt, ho.lt, hne, ho.lo⟩

theorem RF.of_nil {w : World} {base rr m r : Nat} (h : Blk w rr #[.int .i64 m, .slice none 0 0] 91) (h1 : base ≤ r) (h2 : r < w.heap.size) (h3 : rr ≠ r) : RF w base rr [] m r := ⟨_, h, ORow.nil w h1 h2, h3⟩
theorem rput_yes {base rr m r : Nat} {xs : List Int} (v : Int) (hn : xs.length ≤ 2000) (hl : xs.length < m) (w : World) (hbase : base ≤ w.heap.size) (h : RF w base rr xs m r) :
    Calls Try.prog 46 #[.pointer (some ⟨rr, 0, none⟩), .int .i64 v] w fun e w' => e = .returned (.bool true) ∧
      (∃ r', ((r' = r ∧ ¬ Blk w rr #[.int .i64 m, .slice none 0 0] 91) ∨ w.heap.size ≤ r') ∧ RF w' base rr (xs ++ [v]) m r') ∧ Upd (fun i => i = rr ∨ (i = r ∧ ¬ Blk w rr #[.int .i64 m, .slice none 0 0] 91)) w w' := by
  obtain ⟨u, hb, ho, hne⟩ := h
  have hnil : ∀ u', u = u' → u' ≠ .slice none 0 0 → ¬ Blk w rr #[.int .i64 m, .slice none 0 0] 91 := by
    rintro u' rfl hu hb'
    unfold Blk at hb hb'
    rw [hb] at hb'
    simp only [Option.some.injEq, Obj.cells.injEq, Array.mk.injEq, List.cons.injEq, and_true, true_and] at hb'
    exact hu hb'
  have HNIL := Lib.hid hnil
  clear hnil
  obtain ⟨A, c, rfl⟩ := ho.slice
  have c0 := hb.cell 0 rfl
  have c1 := hb.cell 1 rfl
  have f1 := hb.frozen 1
  have HB := Lib.hid hb
  have HO := Lib.hid ho
  have hlt := hb.lt
  clear hb ho
  have k1 : ¬ (m : Int) ≤ xs.length := by omega
  have k2 : decide ((m : Int) ≤ (xs.length : Int)) = false := decide_eq_false k1
  go_enter Try.func46, Try.ntmps46
  go_wp2_with fail
  go_quiet (fail)
  go_wp2_with (at_builtin; refine wpList_oappend rfl _ _ 31 rfl Try.underlying31 Try.info3' rfl (HO.out.non (by ((with_reducible repeat' first | exact Upd.refl _ _ | apply Upd.drew | apply Upd.drewN | apply Upd.alloc | refine Upd.setCell ?_ ?_) <;> first | (intro _ _ h; exact h) | (intro _ _ h; exact h.elim) | (intro i h1 h2; exfalso; (try simp only at h2); omega) | (left; rfl) | (right; dsimp only; omega) | (right; omega)))) w.heap.size v rfl (Blk.new _ _ _) (by omega) (by rw [World.size_alloc]; exact Nat.le_succ_of_le hbase) ?_; intro v' w4 r' hr hi U4; obtain ⟨A', c', rfl⟩ := hi.slice; rw [List.length_append, List.length_singleton] at hi; have hx8 := (Blk.upd U4 (Blk.alloc (Blk.drewN HB.out)) (fun h => hne h.1)).cell 1 rfl; have hf8 := (Blk.upd U4 (Blk.alloc (Blk.drewN HB.out)) (fun h => hne h.1)).frozen 1)
  go_ret
  have hb5 := (Blk.upd U4 (Blk.alloc (Blk.drewN HB.out)) (fun h => hne h.1))
  rw [World.size_alloc] at hr
  have hrr : r' ≠ rr := by
    rcases hr with ⟨e, _⟩ | e
    · omega
    · have e' : w.heap.size + 1 ≤ r' := e
      omega
  refine ⟨rfl, ⟨r', ?_, ⟨_, Blk.set hb5, ?_, fun e => hrr e.symm⟩⟩, ?_⟩
  · rcases hr with ⟨e, en⟩ | e
    · exact .inl ⟨e, HNIL.out _ rfl en⟩
    · exact .inr (Nat.le_of_succ_le e)
  · exact hi.upd (S := fun i => i = rr) (by ((with_reducible repeat' first | exact Upd.refl _ _ | apply Upd.drew | apply Upd.drewN | apply Upd.alloc | refine Upd.setCell ?_ ?_) <;> first | (intro _ _ h; exact h) | (intro _ _ h; exact h.elim) | (intro i h1 h2; exfalso; (try simp only at h2); omega) | (left; rfl) | (right; dsimp only; omega) | (right; omega))) hrr
  · exact (Upd.trans (S := Non) (U := fun i => i = rr ∨ (i = r ∧ ¬ Blk w rr #[.int .i64 m, .slice none 0 0] 91)) (by ((with_reducible repeat' first | exact Upd.refl _ _ | apply Upd.drew | apply Upd.drewN | apply Upd.alloc | refine Upd.setCell ?_ ?_) <;> first | (intro _ _ h; exact h) | (intro _ _ h; exact h.elim) | (intro i h1 h2; exfalso; (try simp only at h2); omega) | (left; rfl) | (right; dsimp only; omega) | (right; omega))) U4 (fun _ h => h.elim) (fun _ _ h => .inr ⟨h.1, HNIL.out _ rfl h.2⟩)).setCell (.inl (.inl rfl))
theorem rput_no {base rr m r : Nat} {xs : List Int} (v : Int) (hl : ¬ xs.length < m) (w : World) (h : RF w base rr xs m r) :
    Calls Try.prog 46 #[.pointer (some ⟨rr, 0, none⟩), .int .i64 v] w fun e w' => e = .returned (.bool false) ∧ Upd Non w w' := by
  obtain ⟨u, hb, ho, hne⟩ := h
  obtain ⟨A, c, rfl⟩ := ho.slice
  have c0 := hb.cell 0 rfl
  have c1 := hb.cell 1 rfl
  clear hb ho
  have k1 : (m : Int) ≤ xs.length := by omega
  have k2 : decide ((m : Int) ≤ (xs.length : Int)) = true := decide_eq_true k1
  go_enter Try.func46, Try.ntmps46
  go_wp2_with fail
  go_quiet (fail)
  go_wp2_with fail
  go_ret
  exact ⟨rfl, by ((with_reducible repeat' first | exact Upd.refl _ _ | apply Upd.drew | apply Upd.drewN | apply Upd.alloc | refine Upd.setCell ?_ ?_) <;> first | (intro _ _ h; exact h) | (intro _ _ h; exact h.elim) | (intro i h1 h2; exfalso; (try simp only at h2); omega) | (left; rfl) | (right; dsimp only; omega) | (right; omega))⟩
theorem rtake_nil {base rr m r : Nat} (w : World) (h : RF w base rr [] m r) :
    Calls Try.prog 47 #[.pointer (some ⟨rr, 0, none⟩)] w fun e w' => e = .returned (.tuple #[.int .i64 0, .bool false]) ∧ w = w' := by
  obtain ⟨u, hb, ho, hne⟩ := h
  obtain ⟨A, c, rfl⟩ := ho.slice
  have c1 := hb.cell 1 rfl
  clear hb ho
  go_enter Try.func47, Try.ntmps47
  go_wp2_with fail
  go_ret2
  exact ⟨rfl, rfl⟩
theorem rtake_any {base rr m r : Nat} {xs : List Int} (hn : xs.length ≤ 2000) (w : World) (h : RF w base rr xs m r) :
    Calls Try.prog 47 #[.pointer (some ⟨rr, 0, none⟩)] w fun e w' => e = .returned (.tuple #[.int .i64 (headI xs), .bool (someI xs)]) ∧ RF w' base rr xs.tail m r ∧ Upd (fun i => i = rr) w w' := by
  obtain ⟨u, hb, ho, hne⟩ := h
  cases xs with
  | nil =>
    obtain ⟨A, c, rfl⟩ := ho.slice
    have c1 := hb.cell 1 rfl
    have HB := Lib.hid hb
    have HO := Lib.hid ho
    clear hb ho
    go_enter Try.func47, Try.ntmps47
    go_wp2_with fail
    go_ret2
    exact ⟨rfl, ⟨_, HB.out, HO.out, hne⟩, Upd.refl _ _⟩
  | cons x l =>
    obtain ⟨off, cap, rfl, hcap, hcells⟩ := ho.cells (by simp)
    have c1 := hb.cell 1 rfl
    have f1 := hb.frozen 1
    have cx : w.cell? ⟨r, off, none⟩ = some (.int .i64 x) := hcells 0 x rfl
    have HC := Lib.hid (ORow.cut (by simpa using ho))
    rw [List.length_cons] at c1 hcap hb hn
    have HB := Lib.hid hb
    have hlt := hb.lt
    have hl0 : ¬ ((l.length : Int) + 1) = 0 := by omega
    clear hb ho hcells
    by_cases hc1 : cap = 1
    · subst hc1
      obtain rfl : l = [] := List.eq_nil_of_length_eq_zero (by omega)
      go_enter Try.func47, Try.ntmps47
      go_wp2_with fail
      go_ret2
      have hC := HC.out
      simp only [↓reduceIte, Nat.add_zero, Nat.sub_self] at hC
      exact ⟨rfl, ⟨_, Blk.set HB.out, hC.upd (S := fun i => i = rr) (by ((with_reducible repeat' first | exact Upd.refl _ _ | apply Upd.drew | apply Upd.drewN | apply Upd.alloc | refine Upd.setCell ?_ ?_) <;> first | (intro _ _ h; exact h) | (intro _ _ h; exact h.elim) | (intro i h1 h2; exfalso; (try simp only at h2); omega) | (left; rfl) | (right; dsimp only; omega) | (right; omega))) (fun e => hne e.symm), hne⟩, by ((with_reducible repeat' first | exact Upd.refl _ _ | apply Upd.drew | apply Upd.drewN | apply Upd.alloc | refine Upd.setCell ?_ ?_) <;> first | (intro _ _ h; exact h) | (intro _ _ h; exact h.elim) | (intro i h1 h2; exfalso; (try simp only at h2); omega) | (left; rfl) | (right; dsimp only; omega) | (right; omega))⟩
    · have hc2 : 1 < cap := by omega
      go_enter Try.func47, Try.ntmps47
      go_wp2_with fail
      go_ret2
      have hC := HC.out
      rw [if_neg hc1] at hC
      exact ⟨rfl, ⟨_, Blk.set HB.out, hC.upd (S := fun i => i = rr) (by ((with_reducible repeat' first | exact Upd.refl _ _ | apply Upd.drew | apply Upd.drewN | apply Upd.alloc | refine Upd.setCell ?_ ?_) <;> first | (intro _ _ h; exact h) | (intro _ _ h; exact h.elim) | (intro i h1 h2; exfalso; (try simp only at h2); omega) | (left; rfl) | (right; dsimp only; omega) | (right; omega))) (fun e => hne e.symm), hne⟩, by ((with_reducible repeat' first | exact Upd.refl _ _ | apply Upd.drew | apply Upd.drewN | apply Upd.alloc | refine Upd.setCell ?_ ?_) <;> first | (intro _ _ h; exact h) | (intro _ _ h; exact h.elim) | (intro i h1 h2; exfalso; (try simp only at h2); omega) | (left; rfl) | (right; dsimp only; omega) | (right; omega))⟩
def FS.cleared (s : FS) : FS := ⟨s.g, 0, 0, s.most, s.row, []⟩
theorem clear_any {b m g : Nat} {xs : List Int} (w : World) (h : FI w b xs m g) :
    Calls Try.prog 48 #[.pointer (some ⟨b, 0, none⟩)] w fun e w' => e = .returned (.int .i64 xs.length) ∧ FI w' b [] m g ∧ Upd (fun i => i = b) w w' := by
  have HF := Lib.hid h
  have hle := h.le
  obtain ⟨s, hb, ok, rfl, rfl, rfl, hgl⟩ := h
  have c0 := hb.c0
  have c1 := hb.c1
  have c2 := hb.c2
  have f0 := hb.1.frozen 0
  have f1 := hb.1.frozen 1
  have f2 := hb.1.frozen 2
  have HB := Lib.hid hb
  have hlt := hb.lt
  by_cases hx : s.xs.length = 0
  · have HX := Lib.hid (List.eq_nil_of_length_eq_zero hx)
    rw [hx]
    have HXX := Lib.hid hx
    clear hb hx
    go_enter Try.func48, Try.ntmps48
    go_wp2_with fail
    refine (len_is 0 (by rw [HXX.out]; rfl) _ HF.out).mono ?_
    rintro e w1 ⟨rfl, rfl⟩
    go_wp2_with fail
    go_ret
    exact ⟨rfl, by have := HF.out; rwa [HX.out] at this, Upd.refl _ _⟩
  · have k1 : (0 : Int) < s.xs.length := by omega
    have hL := ok.le
    have hL0 : 0 < s.L := by omega
    rw [FS.sl_some hL0] at c0
    clear hb hL
    go_enter Try.func48, Try.ntmps48
    go_wp2_with fail
    refine (len_any _ HF.out).mono ?_
    rintro e w1 ⟨rfl, rfl⟩
    go_wp2_with fail
    go_ret
    refine ⟨rfl, ⟨s.cleared, ⟨?_, fun h => absurd h (Nat.lt_irrefl 0)⟩, ⟨fun h => absurd h (Nat.lt_irrefl 0), fun _ => rfl, Nat.le_refl _, Nat.zero_le _, Nat.zero_le _, (fun j v h => by simp [FS.cleared] at h), ok.mm⟩, rfl, rfl, rfl, ?_⟩, by ((with_reducible repeat' first | exact Upd.refl _ _ | apply Upd.drew | apply Upd.drewN | apply Upd.alloc | refine Upd.setCell ?_ ?_) <;> first | (intro _ _ h; exact h) | (intro _ _ h; exact h.elim) | (intro i h1 h2; exfalso; (try simp only at h2); omega) | (left; rfl) | (right; dsimp only; omega) | (right; omega))⟩
    · exact Blk.eq (Blk.set (Blk.set (Blk.set HB.out.1))) rfl
    · show s.g < _
      simp only [World.size_setCell]
      exact hgl
end Go.Proofs.Ytmblplhehbdocaa
