/- A fifo's memory as a structure: its head and its ring. No condition. -/
import Derived.Test.YtmblplhehbdocaaBase
import Derived.Test.YtmblplhehbdocaaProg
import Derived.IntWalk
namespace Go.Proofs.Ytmblplhehbdocaa
namespace S
open Go.RowKit

/-- A row of numbers, as cells. -/
def rowI (n : Nat) (c : Nat → ByteArray) : Array Value := (Array.range n).map fun i => .string (c i)
def updI (c : Nat → ByteArray) (k : Nat) (v : ByteArray) : Nat → ByteArray := fun j => if j = k then v else c j
theorem rowI_size (n : Nat) (c : Nat → ByteArray) : (rowI n c).size = n := by simp [rowI]
theorem rowI_at {n k : Nat} (c : Nat → ByteArray) (hk : k < n) : (rowI n c)[k]? = some (.string (c k)) := by simp [rowI, hk]
theorem rowI_set {n k : Nat} (c : Nat → ByteArray) (hk : k < n) (v : ByteArray) : (rowI n c).setIfInBounds k (.string v) = rowI n (updI c k v) := by
  apply Array.ext_getElem?
  intro i
  rw [Array.getElem?_setIfInBounds]
  by_cases hi : k = i
  · subst hi
    simp [rowI, updI, hk]
  · rw [if_neg hi]
    by_cases h2 : i < n
    · rw [rowI_at c h2, rowI_at _ h2]
      simp only [updI]
      rw [if_neg (fun h => hi h.symm)]
    · simp [rowI, h2]
theorem rowI_made (n : Nat) : madeCells (Value.string ⟨#[]⟩).cells (n * 1) = rowI n (fun _ => ⟨#[]⟩) := by
  simp only [madeCells, rowI, Nat.mul_one]
  congr 1
  funext i
  show (#[Value.string ⟨#[]⟩] : Array Value)[i % 1]! = _
  rw [Nat.mod_one]
  rfl
/-- The bound of a number. -/
def maxI : Nat := 9223372036854775807
/-- A fifo: the ring's block, its length, where the first thing is, how many may be there, the ring's cells, and the things in order. -/
structure FS where
  g : Nat
  L : Nat
  fst : Nat
  most : Nat
  row : Nat → ByteArray
  xs : List ByteArray
def FS.sl (s : FS) : Value := if s.L = 0 then .slice none 0 0 else .slice (some ⟨s.g, 0, none⟩) s.L s.L
def FS.enc (s : FS) : Array Value := #[s.sl, .int .i64 s.fst, .int .i64 s.xs.length, .int .i64 s.most, .bool true]
structure FS.ok (s : FS) : Prop where
  at_lt : 0 < s.L → s.fst < s.L
  at0 : s.L = 0 → s.fst = 0
  le : s.xs.length ≤ s.L
  lm : s.L ≤ s.most
  l5 : s.L ≤ 5000
  row : ∀ (j : Nat) (v : ByteArray), s.xs[j]? = some v → s.row ((s.fst + j) % s.L) = v
  mm : s.most ≤ maxI
def FBlk (w : World) (b : Nat) (s : FS) : Prop := Blk w b s.enc 146 ∧ (0 < s.L → Blk w s.g (rowI s.L s.row) 9 ∧ s.g ≠ b)
theorem FBlk.lt {w : World} {b : Nat} {s : FS} (h : FBlk w b s) : b < w.heap.size := h.1.lt
theorem FBlk.upd {S : Nat → Prop} {w w' : World} {b : Nat} {s : FS} (u : Upd S w w') (h : FBlk w b s) (hb : ¬ S b) (hg : 0 < s.L → ¬ S s.g) : FBlk w' b s :=
  ⟨Blk.upd u h.1 hb, fun hL => ⟨Blk.upd u (h.2 hL).1 (hg hL), (h.2 hL).2⟩⟩
theorem FBlk.non {w w' : World} {b : Nat} {s : FS} (u : Upd Non w w') (h : FBlk w b s) : FBlk w' b s := h.upd u id (fun _ => id)
theorem FBlk.drewN {w : World} {b n : Nat} {s : FS} (h : FBlk w b s) : FBlk (w.drewN n) b s := h
theorem FBlk.drew {w : World} {b : Nat} {s : FS} (h : FBlk w b s) : FBlk w.drew b s := h
theorem FS.sl_nil {s : FS} (h : s.L = 0) : s.sl = .slice none 0 0 := if_pos h
theorem FS.sl_some {s : FS} (h : 0 < s.L) : s.sl = .slice (some ⟨s.g, 0, none⟩) s.L s.L := if_neg (by omega)
theorem FBlk.c0 {w : World} {b : Nat} {s : FS} (h : FBlk w b s) : w.cell? ⟨b, 0, none⟩ = some s.sl := h.1.cell 0 rfl
theorem FBlk.c1 {w : World} {b : Nat} {s : FS} (h : FBlk w b s) : w.cell? ⟨b, 1, none⟩ = some (.int .i64 s.fst) := h.1.cell 1 rfl
theorem FBlk.c2 {w : World} {b : Nat} {s : FS} (h : FBlk w b s) : w.cell? ⟨b, 2, none⟩ = some (.int .i64 s.xs.length) := h.1.cell 2 rfl
theorem FBlk.c3 {w : World} {b : Nat} {s : FS} (h : FBlk w b s) : w.cell? ⟨b, 3, none⟩ = some (.int .i64 s.most) := h.1.cell 3 rfl
theorem FBlk.c4 {w : World} {b : Nat} {s : FS} (h : FBlk w b s) : w.cell? ⟨b, 4, none⟩ = some (.bool true) := h.1.cell 4 rfl
/-- Which blocks a fifo's deeds may turn. -/
abbrev FS.own (s : FS) (b : Nat) : Nat → Prop := fun i => i = b ∨ i = s.g
theorem nat_tmod (a n L : Nat) : ((a : Int) + (n : Int)).tmod (L : Int) = (((a + n) % L : Nat) : Int) := by
  rw [Int.tmod_eq_emod_of_nonneg (by omega), Int.natCast_emod, Int.natCast_add]
/-- A new row of numbers. -/
theorem wpList_make_ints {P : Program} {ops : Array Oper} {rest : List Oper} {o : Oper} {a : Act} {Q : Exit → Act → World → Prop} {w : World} (hgd : o.guard = none) (l c : Operand) (t e : TypeId) (hop : o.op = Op.makeSlice t l c)
    (h1 : P.underlying t = some (.slice e)) (hinfo : (P.info? e).map (fun i => (i.zero, i.size, i.bytes)) = some (some (.string ⟨#[]⟩), 1, 16)) (n : Nat) (hl : a.eval l = .int .i64 n) (hc : a.eval c = .int .i64 n) (hn : n ≤ 100000)
    (h : wpList P ops Q rest (a.put o.dst (.slice (some ⟨w.heap.size, 0, none⟩) n n)) (w.alloc (.cells (rowI n fun _ => ⟨#[]⟩) e))) : wpList P ops Q (o :: rest) a w := by
  obtain ⟨i, hi, hz0, hz1, hz2⟩ := info_parts hinfo
  refine wpList_plain hgd fun K hK => ?_
  have hr := run_make (P := P) w t e i _ h1 hi hz0 .i64 .i64 (n : Int) (n : Int) (by omega) (Int.le_refl _) (by rw [hz2]; omega) (by omega)
  rw [hz1, Int.toNat_natCast, rowI_made] at hr
  unfold Oper.wp
  simp only [execOp, hop, hl, hc, Sem.run_bind, hr, Result.andThen_ok, Sem.run_pure]
  exact hK _ _ h
end S
end Go.Proofs.Ytmblplhehbdocaa
