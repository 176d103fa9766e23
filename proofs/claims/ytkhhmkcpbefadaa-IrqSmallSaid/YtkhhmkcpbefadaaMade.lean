/- make of a row whose things are one cell each. No condition. -/
import Derived.Test.YtkhhmkcpbefadaaBase
import Derived.Test.YtkhhmkcpbefadaaProg
import Derived.OwnWalk
namespace Go.Proofs.Ytkhhmkcpbefadaa
open Go.RowKit
theorem made_rep (n : Nat) (z : Value) : madeCells #[z] (n * 1) = (List.replicate n z).toArray := by
  apply Array.ext_getElem?
  intro i
  simp only [madeCells, Nat.mul_one]
  by_cases h : i < n
  · simp [h, Nat.mod_one]
  · simp [h]
/-- A new row. -/
theorem wpList_make_row {P : Program} {ops : Array Oper} {rest : List Oper} {o : Oper} {a : Act} {Q : Exit → Act → World → Prop} {w : World} (hgd : o.guard = none) (l c : Operand) (t e : TypeId) (hop : o.op = Op.makeSlice t l c)
    (z : Value) (bytes : Nat) (h1 : P.underlying t = some (.slice e)) (hinfo : (P.info? e).map (fun i => (i.zero, i.size, i.bytes)) = some (some z, 1, bytes)) (hz : z.cells = #[z]) (n : Nat) (hl : a.eval l = .int .i64 n) (hc : a.eval c = .int .i64 n) (hn : n ≤ 100000) (hb : bytes ≤ 1000)
    (h : wpList P ops Q rest (a.put o.dst (.slice (some ⟨w.heap.size, 0, none⟩) n n)) (w.alloc (.cells (List.replicate n z).toArray e))) : wpList P ops Q (o :: rest) a w := by
  obtain ⟨i, hi, hz0, hz1, hz2⟩ := info_parts hinfo
  refine wpList_plain hgd fun K hK => ?_
  have hnb : n * bytes ≤ 100000 * 1000 := Nat.mul_le_mul hn hb
  have hr := run_make (P := P) w t e i _ h1 hi hz0 .i64 .i64 (n : Int) (n : Int) (by omega) (Int.le_refl _) (by rw [hz2, Int.mul_comm, ← Int.natCast_mul]; omega) (by omega)
  rw [hz1, Int.toNat_natCast, hz, made_rep] at hr
  unfold Oper.wp
  simp only [execOp, hop, hl, hc, Sem.run_bind, hr, Result.andThen_ok, Sem.run_pure]
  exact hK _ _ h
end Go.Proofs.Ytkhhmkcpbefadaa
