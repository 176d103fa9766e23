/- Contracts of the rotor's registers. Conditions: as at each lemma. -/
import Derived.Test.YtnmbkhofikbcjaaRotorPts
import Derived.Test.YtnmbkhofikbcjaaRotorMap
namespace Go.Proofs.Ytnmbkhofikbcjaa
open Go.RowKit Flt

theorem eqIn_nil {P : Program} (w : World) (d : Nat) (t : TypeId) {a b c} (h : P.underlying t = some (.func a b c)) :
    (Op.equalIn (d + 1) t .nilFunc .nilFunc).run P w = .ok true w := by simp [Op.equalIn, run_underlying h]
theorem eqIn_func {P : Program} (w : World) (d : Nat) (t : TypeId) (f : Fn) (x y : Array Value) {a b c} (h : P.underlying t = some (.func a b c)) :
    (Op.equalIn (d + 1) t (.func f x y) .nilFunc).run P w = .ok false w := by simp [Op.equalIn, run_underlying h]
theorem nil_yes (w : World) : (binOp .eql 113 .nilFunc .nilFunc).run Try.prog w = .ok (.bool true) w := by
  simp only [binOp]
  simp [Op.equal, Op.maxDepth, eqIn_nil w 9999 113 Try.underlying113]
theorem nil_not (f : Fn) (x y : Array Value) (w : World) : (binOp .eql 113 (.func f x y) .nilFunc).run Try.prog w = .ok (.bool false) w := by
  simp only [binOp]
  simp [Op.equal, Op.maxDepth, eqIn_func w 9999 113 f x y Try.underlying113]

/-- A made rotor at b: its point's word v, its steps n. -/
def RBlk (w : World) (b : Nat) (v n : Int) : Prop := Blk w b #[.complex .f64 (X v) (Y v), .int .u32 n, .bool true] 87

theorem rotorNew_spec (w : World) : Calls Try.prog 37 #[] w fun e w' => e = .returned (.pointer (some ⟨w.heap.size, 0, none⟩)) ∧ Upd Non w w' ∧ RBlk w' w.heap.size 0 0 := by
  go_enter Try.func37, Try.ntmps37
  go_wp2
  go_ret
  exact ⟨rfl, by ((with_reducible repeat' first | exact Upd.refl _ _ | apply Upd.drew | apply Upd.drewN | apply Upd.alloc | refine Upd.setCell ?_ ?_) <;> first | (intro _ _ h; exact h) | (intro _ _ h; exact h.elim) | (intro i h1 h2; exfalso; (try simp only at h2); omega) | (left; rfl) | (right; dsimp only; omega) | (right; omega)), Blk.new _ _ _⟩

theorem Upd.mw (w : World) (m : IM) (j : Nat) : Upd Non w (MW w m j) := ((Upd.refl Non w).alloc).drewN

set_option maxRecDepth 100000 in
theorem write_bad (b : Nat) (v n x reg : Int) (h : reg < 0 ∨ 3 < reg) (w : World) (hb : RBlk w b v n) : Calls Try.prog 38 #[.pointer (some ⟨b, 0, none⟩), .int .i64 reg, .int .u32 x] w fun e w' => e = .returned (.tuple #[]) ∧ Upd Non w w' := by
  have HB := Lib.hid hb
  have H := Lib.hid h
  have hm : w.cell? ⟨b, 2, none⟩ = some (.bool true) := hb.cell 2 rfl
  have hlt := hb.lt
  have n0 : (reg == 0) = false := by simp; omega
  have n1 : (reg == 1) = false := by simp; omega
  have n2 : (reg == 2) = false := by simp; omega
  have n3 : (reg == 3) = false := by simp; omega
  clear hb h
  have hm0 := run_make_mw w
  have hm1 : (Instr.makeMap 114 .none).run Try.prog w.drew = .ok (.map (some w.heap.size)) (MW w IM.none 1) := rfl
  have hin := fun m j k v h => run_insert_mw w m j k v h
  have hlk := fun m j k => run_lookup_mw w m j k
  have hdr := fun m j => MW_drew w m j
  have hn0 := fun k => IM.has_none k
  have hn1 := fun m k v i => IM.has_ins m k v i
  have qn := fun w => nil_yes w
  have hl0 := fun k z => IM.look_none k z
  have hl1 := fun m k i v z h => IM.look_ins m k i v z h
  have e0 : ¬ 0 = reg := by have := H.out; omega
  have e1 : ¬ 1 = reg := by have := H.out; omega
  have e2 : ¬ 2 = reg := by have := H.out; omega
  have e3 : ¬ 3 = reg := by have := H.out; omega
  go_enter Try.func38, Try.ntmps38
  go_wp2
  go_region
  all_goals
    go_wp2
    refine bodyPost_ret (results_none rfl _ _ _) rfl ?_
    exact ⟨rfl, Upd.mw _ _ _⟩
end Go.Proofs.Ytnmbkhofikbcjaa
