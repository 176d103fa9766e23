/- What a call may turn in memory: the relation Upd between two worlds, blocks that are known whole, and how both are carried over a walk's steps. No condition. -/
import Derived.WalkKit
import Derived.WalkLawsBesides
import Derived.Deep.QuietTactic
import Derived.BigQuiet
import Derived.StillTailTactics
import Derived.Deep.RegionHeld3
import Derived.Deep.RegionWith
import Derived.Laws.Rows
import Derived.Deep.WholeRow
import Derived.Deep.MidRow
import Derived.Outline
import Derived.Deep.DeepMust
import Derived.Lib.Hide
namespace Go.Proofs.Ytmblplhehbdocaa
open Go.RowKit

/-- The world behind is as the world before, but for new blocks and the blocks of which S says that they may have turned. -/
structure Upd (S : Nat → Prop) (w w' : World) : Prop where
  os : w'.os = w.os
  tape : w'.tape = w.tape
  output : w'.output = w.output
  size : w.heap.size ≤ w'.heap.size
  block : ∀ i, i < w.heap.size → ¬ S i → w'.heap[i]? = w.heap[i]?

/-- Nothing that was there has turned. -/
abbrev Non : Nat → Prop := fun _ => False

theorem Upd.refl (S : Nat → Prop) (w : World) : Upd S w w := ⟨rfl, rfl, rfl, Nat.le_refl _, fun _ _ _ => rfl⟩
theorem Upd.trans {S T U : Nat → Prop} {a b c : World} (h : Upd S a b) (k : Upd T b c) (hs : ∀ i, S i → U i) (ht : ∀ i, i < a.heap.size → T i → U i) : Upd U a c :=
  ⟨k.os.trans h.os, k.tape.trans h.tape, k.output.trans h.output, Nat.le_trans h.size k.size,
   fun i hi hu => (k.block i (Nat.lt_of_lt_of_le hi h.size) (fun t => hu (ht i hi t))).trans (h.block i hi (fun s => hu (hs i s)))⟩
theorem Upd.mono {S T : Nat → Prop} {a b : World} (h : Upd S a b) (hs : ∀ i, i < a.heap.size → S i → T i) : Upd T a b :=
  ⟨h.os, h.tape, h.output, h.size, fun i hi ht => h.block i hi (fun s => ht (hs i hi s))⟩
theorem Upd.drew {S : Nat → Prop} {a b : World} (h : Upd S a b) : Upd S a b.drew := ⟨h.os, h.tape, h.output, h.size, h.block⟩
theorem Upd.drewN {S : Nat → Prop} {a b : World} {n : Nat} (h : Upd S a b) : Upd S a (b.drewN n) := ⟨h.os, h.tape, h.output, h.size, h.block⟩
theorem Upd.alloc {S : Nat → Prop} {a b : World} {o : Obj} (h : Upd S a b) : Upd S a (b.alloc o) :=
  ⟨h.os, h.tape, h.output, by rw [World.size_alloc]; exact Nat.le_succ_of_le h.size, fun i hi hs => by
    have h1 := h.size
    rw [Below.heap_alloc b o i (by omega)]; exact h.block i hi hs⟩
theorem Upd.setCell {S : Nat → Prop} {a b : World} {p : Addr} {v : Value} (h : Upd S a b) (hp : S p.block ∨ a.heap.size ≤ p.block) : Upd S a (b.setCell p v) :=
  ⟨h.os, h.tape, h.output, by rw [World.size_setCell]; exact h.size, fun i hi hs => by
    have hne : i ≠ p.block := by
      rintro rfl
      rcases hp with hp | hp
      · exact hs hp
      · omega
    rw [heap_setCell_other _ _ _ _ hne]; exact h.block i hi hs⟩
/-- Behind a callee's own relation. -/
theorem Upd.call {S T : Nat → Prop} {a b c : World} (k : Upd T b c) (h : Upd S a b) (ht : ∀ i, i < a.heap.size → T i → S i) : Upd S a c :=
  Upd.trans h k (fun _ s => s) ht
theorem Upd.grown {S : Nat → Prop} {a b c : World} {row : Option Nat} (k : b.grownBy c row) (h : Upd S a b) (hr : ∀ r, row = some r → S r ∨ a.heap.size ≤ r) : Upd S a c :=
  ⟨k.os.trans h.os, k.tape.trans h.tape, k.output.trans h.output, Nat.le_trans h.size k.size, fun i hi hs => by
    refine (k.block i (Nat.lt_of_lt_of_le hi h.size) ?_).trans (h.block i hi hs)
    intro e
    rcases hr i e.symm with h1 | h1
    · exact hs h1
    · omega⟩
theorem Upd.below {a b : World} (h : Upd Non a b) : Below a.heap.size a b := ⟨h.os, h.tape, h.output, h.size, fun k hk => h.block k hk id⟩
theorem Upd.of_below {S : Nat → Prop} {a b : World} (h : Below a.heap.size a b) : Upd S a b := ⟨h.os, h.tape, h.output, h.size, fun k hk _ => h.block k hk⟩
theorem Upd.cell {S : Nat → Prop} {a b : World} (h : Upd S a b) {p : Addr} (hp : p.block < a.heap.size) (hs : ¬ S p.block) : b.cell? p = a.cell? p :=
  World.cell?_of_block (w := a) (h.block p.block hp hs)
theorem Upd.frozen {S : Nat → Prop} {a b : World} (h : Upd S a b) {p : Addr} (hp : p.block < a.heap.size) (hs : ¬ S p.block) : b.frozen? p = a.frozen? p :=
  World.frozen?_of_block (w := a) (h.block p.block hp hs)
theorem Upd.cell_eq {S : Nat → Prop} {a b : World} (h : Upd S a b) {p : Addr} {v : Value} (hs : ¬ S p.block) (hv : a.cell? p = some v) : b.cell? p = some v :=
  (h.cell (World.block_lt_of_cell? a p hv) hs).trans hv

/-- Block b is a row of cells of type t, known whole, none of them frozen. -/
def Blk (w : World) (b : Nat) (c : Array Value) (t : TypeId) : Prop := w.heap[b]? = some (.cells c t (0, 0))
theorem Blk.lt {w : World} {b : Nat} {c : Array Value} {t : TypeId} (h : Blk w b c t) : b < w.heap.size := (Array.getElem?_eq_some_iff.1 h).1
theorem Blk.cell {w : World} {b : Nat} {c : Array Value} {t : TypeId} (h : Blk w b c t) (i : Nat) {v : Value} (hv : c[i]? = some v) : w.cell? ⟨b, i, none⟩ = some v := by
  rw [cell_of_row w b i c t (0, 0) h]; exact hv
theorem Blk.frozen {w : World} {b : Nat} {c : Array Value} {t : TypeId} (h : Blk w b c t) (i : Nat) : w.frozen? ⟨b, i, none⟩ = false := frozen_of_row w b i c t h
theorem Blk.alloc {w : World} {b : Nat} {c : Array Value} {t : TypeId} {o : Obj} (h : Blk w b c t) : Blk (w.alloc o) b c t := by
  unfold Blk; rw [Below.heap_alloc w o b h.lt]; exact h
theorem Blk.new (w : World) (c : Array Value) (t : TypeId) : Blk (w.alloc (.cells c t)) w.heap.size c t := heap_alloc_new w _
theorem Blk.newAt {w : World} {n : Nat} {c : Array Value} {t : TypeId} (h : n = w.heap.size) : Blk (w.alloc (.cells c t)) n c t := h ▸ Blk.new w c t
theorem Blk.drew {w : World} {b : Nat} {c : Array Value} {t : TypeId} (h : Blk w b c t) : Blk w.drew b c t := h
theorem Blk.drewN {w : World} {b n : Nat} {c : Array Value} {t : TypeId} (h : Blk w b c t) : Blk (w.drewN n) b c t := h
theorem Blk.set {w : World} {b i : Nat} {c : Array Value} {t : TypeId} {v : Value} (h : Blk w b c t) : Blk (w.setCell ⟨b, i, none⟩ v) b (c.setIfInBounds i v) t := heap_setCell_same w b i c t v h
theorem Blk.set_ne {w : World} {b : Nat} {p : Addr} {c : Array Value} {t : TypeId} {v : Value} (h : Blk w b c t) (hp : b ≠ p.block) : Blk (w.setCell p v) b c t := by
  unfold Blk; rw [heap_setCell_other _ _ _ _ hp]; exact h
theorem Blk.upd {S : Nat → Prop} {a b : World} {k : Nat} {c : Array Value} {t : TypeId} (u : Upd S a b) (h : Blk a k c t) (hs : ¬ S k) : Blk b k c t := by
  unfold Blk; rw [u.block k h.lt hs]; exact h
theorem Blk.eq {w : World} {b : Nat} {c c' : Array Value} {t : TypeId} (h : Blk w b c t) (e : c = c') : Blk w b c' t := e ▸ h

/-! ### Slices of the call's own -/
section
variable {base : Nat} {e : TypeId} {size : Nat} {v : Value} {n : Nat} {xs : List Value}
theorem own_block {w : World} (h : w.ownsRow base e size v n xs) (k : Nat) (hk : v.ownBlock = some k) : base ≤ k ∧ k < w.heap.size := h.lt k hk
theorem own_upd {S : Nat → Prop} {w w1 : World} (u : Upd S w w1) (h : w.ownsRow base e size v n xs) (hs : ∀ k, v.ownBlock = some k → ¬ S k) : w1.ownsRow base e size v n xs := by
  obtain ⟨h1, h2⟩ := h
  refine ⟨h1, ?_⟩
  rcases h2 with h2 | ⟨g, cap, cur, rfl, hg, hh, r⟩
  · exact .inl h2
  · exact .inr ⟨g, cap, cur, rfl, hg, (u.block g (Array.getElem?_eq_some_iff.1 hh).1 (hs g rfl)).trans hh, r⟩
theorem own_slice {w : World} (h : w.ownsRow base e size v n xs) : ∃ A c, v = .slice A n c := by
  rcases h.2 with ⟨rfl, rfl⟩ | ⟨g, cap, cur, rfl, _⟩
  · exact ⟨none, 0, rfl⟩
  · exact ⟨_, cap, rfl⟩
theorem own_form {w : World} (h : w.ownsRow base e size v n xs) (hn : 0 < n) : ∃ g c, v = .slice (some ⟨g, 0, none⟩) n c ∧ base ≤ g ∧ g < w.heap.size := by
  rcases h.2 with ⟨rfl, h0⟩ | ⟨g, cap, cur, rfl, hb, hh, _⟩
  · omega
  · exact ⟨g, cap, rfl, hb, (Array.getElem?_eq_some_iff.1 hh).1⟩
theorem own_le {w : World} (h : w.ownsRow base e size v n xs) : n ≤ 9223372036854775807 := by
  rcases h.2 with ⟨_, h0⟩ | ⟨g, cap, cur, _, _, _, h1, h2, _⟩
  · omega
  · simp only [maxLen] at h2; omega
theorem blk_news {w : World} {g : Nat} {c : Array Value} {t : TypeId} (h : Blk w g c t) : ∀ j u, c.toList[j]? = some u → w.cell? ((⟨g, 0, none⟩ : Addr).add j) = some u := by
  intro j u hj
  rw [show (⟨g, 0, none⟩ : Addr).add j = ⟨g, j, none⟩ by unfold Addr.add; split <;> simp_all]
  exact h.cell j (by simpa using hj)
end
theorem len_slice {P : Program} {t e ty : TypeId} (h : P.underlying t = some (.slice e)) (A : Option Addr) (n c : Nat) (w : World) : (Builtin.len_ #[t] ty #[.slice A n c]).run P w = .ok (.int .i64 n) w := by
  simp [Builtin.len_, run_underlying h, goInt]
/-- append(v, x): v a slice of the call's own, x a slice over a block that is known whole (the variadic's). -/
theorem wp_append {P : Program} {ops : Array Oper} {rest : List Oper} {o : Oper} {a : Act} {Q : Exit → Act → World → Prop} {w0 W : World} (S : Nat → Prop) (hgd : o.guard = none) (s x : Operand) (t : TypeId)
    (ho : o.op = .call { callee := .builtin .append, args := #[s, x], argTypes := #[t, t] })
    (base : Nat) (e : TypeId) (z : Value) (size bytes : Nat) (ht : P.underlying t = some (.slice e)) (hinfo : (P.info? e).map (fun i => (i.zero, i.size, i.bytes)) = some (some z, size, bytes))
    (hzs : z.cells.size = size) (hsz : 0 < size) (hby : 0 < bytes)
    (v : Value) (n : Nat) (xs : List Value) (hs : a.eval s = v) (hown : W.ownsRow base e size v n xs)
    (g m c : Nat) (news : Array Value) (t' : TypeId) (hx : a.eval x = .slice (some ⟨g, 0, none⟩) m c) (hblk : Blk W g news t') (hl : news.size = m * size) (h1 : news.toList.all (fun u => u.oneCell') = true)
    (hbytes : (n + m) * bytes ≤ 140737488355328) (hU : Upd S w0 W) (hB : w0.heap.size ≤ base) (hbase : base ≤ W.heap.size)
    (h : ∀ v' w', w'.ownsRow base e size v' (n + m) (xs ++ news.toList) → Upd S w0 w' → W.grownBy w' v.ownBlock → wpList P ops Q rest (a.put o.dst v') w') : wpList P ops Q (o :: rest) a W := by
  obtain ⟨i0, hi, hzz⟩ := Option.map_eq_some_iff.1 hinfo
  simp only [Prod.mk.injEq] at hzz
  obtain ⟨hz0, hz1, hz2⟩ := hzz
  have hlen : n + m ≤ 140737488355328 := Nat.le_trans (Nat.le_mul_of_pos_right _ hby) hbytes
  refine wpList_append_own W hgd s x t ho base e i0 z size bytes ht hi hz0 hz1 hz2 hzs hsz v n xs hs hown ⟨g, 0, none⟩ m c news.toList hx (by simpa using hl) (blk_news hblk)
    (fun u hu => List.all_eq_true.1 h1 u hu) (by simp only [maxLen]; omega) hbytes hbase ?_
  intro v' w' h2 h3 _
  exact h v' w' h2 (Upd.grown h3 hU (fun r hr => .inr (Nat.le_trans hB (own_block hown r hr).1))) h3
end Go.Proofs.Ytmblplhehbdocaa
