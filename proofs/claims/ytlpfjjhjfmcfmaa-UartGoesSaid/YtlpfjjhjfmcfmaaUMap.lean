/- A map literal over whole numbers that the call makes: its inserts in any order, its lookup. No condition. -/
import Derived.Test.YtlpfjjhjfmcfmaaBase
import Derived.Test.YtlpfjjhjfmcfmaaProg
import Derived.MapKept
import Derived.ChangeMaps4
namespace Go.Proofs.Ytlpfjjhjfmcfmaa
open Go.MapKept

theorem Try.und65 : Try.prog.underlying 65 = some (.map 3 64) := by kernel_rfl
theorem Try.und67 : Try.prog.underlying 67 = some (.map 3 66) := by kernel_rfl
theorem Try.und3 : Try.prog.underlying 3 = some (.int .i64) := by kernel_rfl

/-- A map's entries under whole numbers. -/
structure IM where
  es : Array MapEntry
  clock : Nat
  keys : ∀ x ∈ es.toList, ∃ n, x.key = .int .i64 n
def IM.obj (m : IM) : Obj := .map m.es m.clock
def IM.none : IM := ⟨#[], 0, by simp⟩
def IM.look (m : IM) (k : Int) (z : Value) : Value := match Instr.findNow (.int .i64) (.int .i64 k) m.es.toList 0 with
  | some (some (_, v)) => v
  | _ => z
theorem isKey_int (n : Int) : IsKey (.int .i64) (.int .i64 n) := by simp [IsKey]
theorem IM.isKeys (m : IM) : ∀ x ∈ m.es.toList, IsKey (.int .i64) x.key := fun x hx => by
  obtain ⟨n, h⟩ := m.keys x hx
  rw [h]; exact isKey_int n
theorem IM.find (m : IM) (k : Int) : (Instr.findNow (.int .i64) (.int .i64 k) m.es.toList 0 = some .none ∧ ∀ x ∈ m.es.toList, x.key ≠ .int .i64 k) ∨
    ∃ j e, Instr.findNow (.int .i64) (.int .i64 k) m.es.toList 0 = some (some (j, e.val)) ∧ m.es.toList[j]? = some e ∧ e.key = .int .i64 k := by
  rcases findNow_spec (isKey_int k) m.es.toList 0 m.isKeys with h | ⟨j, e, h1, h2, h3⟩
  · exact .inl h
  · exact .inr ⟨j, e, by rw [h1, Nat.zero_add], h2, h3⟩
/-- .. with a new entry (its key being new). -/
def IM.ins (m : IM) (k : Int) (v : Value) : IM := ⟨m.es.push ⟨.int .i64 k, v, m.clock⟩, m.clock + 1, by
  intro x hx
  simp only [Array.toList_push, List.mem_append, List.mem_singleton] at hx
  rcases hx with hx | rfl
  · exact m.keys x hx
  · exact ⟨k, rfl⟩⟩
def keyIs (k : Int) : Value → Bool
  | .int .i64 n => n == k
  | _ => false
theorem keyIs_int (k n : Int) : keyIs k (.int .i64 n) = (n == k) := rfl
def IM.has (m : IM) (k : Int) : Bool := m.es.toList.any fun x => keyIs k x.key
theorem IM.has_none (k : Int) : IM.none.has k = false := rfl
theorem IM.has_ins (m : IM) (k : Int) (v : Value) (i : Int) : (m.ins k v).has i = (m.has i || k == i) := by
  unfold IM.has IM.ins
  simp [keyIs]

section
variable {P : Program} {w : World}
theorem run_findKey_im (h3 : P.underlying 3 = some (.int .i64)) (m : IM) (k : Int) : (Instr.findKey 3 (.int .i64 k) m.es.toList).run P w = .ok ((Instr.findNow (.int .i64) (.int .i64 k) m.es.toList 0).getD .none) w := by
  unfold Instr.findKey
  simp only [Sem.run_bind, run_underlying h3, Result.andThen]
  rcases m.find k with ⟨h, _⟩ | ⟨j, e, h, _⟩
  · rw [h]; rfl
  · rw [h]; rfl
theorem set_new (w : World) (o o' : Obj) : { (w.alloc o) with heap := (w.alloc o).heap.setIfInBounds w.heap.size o' } = w.alloc o' := by
  unfold World.alloc
  have e : (w.heap.push o).setIfInBounds w.heap.size o' = w.heap.push o' := by
    apply Array.ext_getElem?
    intro i
    simp only [Array.getElem?_setIfInBounds, Array.getElem?_push, Array.size_push]
    by_cases h : w.heap.size = i
    · subst h; simp
    · rw [if_neg h, if_neg (Ne.symm h), if_neg (Ne.symm h)]
  simp only [e]
theorem run_insert {mt ft : TypeId} (ht : P.underlying mt = some (.map 3 ft)) (h3 : P.underlying 3 = some (.int .i64)) (w : World) (m : IM) (k : Int) (v : Value) (hn : m.has k = false) :
    (Instr.mapUpdate mt (.map (some w.heap.size)) (.int .i64 k) v).run P (w.alloc m.obj) = .ok () (w.alloc (m.ins k v).obj) := by
  have hb : (w.alloc m.obj).heap[w.heap.size]? = some (.map m.es m.clock) := heap_alloc_new w _
  have hf : Instr.findNow (.int .i64) (.int .i64 k) m.es.toList 0 = some .none := by
    rcases m.find k with ⟨h, _⟩ | ⟨j, e, _, h2, h3⟩
    · exact h
    · exfalso
      have hm : e ∈ m.es.toList := List.mem_of_getElem? h2
      have : m.has k = true := List.any_eq_true.2 ⟨e, hm, by rw [h3]; simp [keyIs]⟩
      rw [hn] at this; cases this
  simp only [Instr.mapUpdate, Sem.run_bind, run_underlying ht, MapKept.run_getObj_map hb, MapKept.run_checkKey h3 (isKey_int k), run_findKey_im h3, hf, Option.getD, MapKept.run_setObj_map _ hb, Result.andThen]
  rw [set_new]
  rfl
theorem run_lookup_im {mt ft : TypeId} (ht : P.underlying mt = some (.map 3 ft)) (h3 : P.underlying 3 = some (.int .i64)) (hz : ∀ w, (zeroValue ft).run P w = .ok .nilFunc w) (w : World) (m : IM) (k : Int) :
    (Instr.lookup mt (.map (some w.heap.size)) (.int .i64 k) false).run P (w.alloc m.obj) = .ok (m.look k .nilFunc) (w.alloc m.obj) := by
  have hb : (w.alloc m.obj).heap[w.heap.size]? = some (.map m.es m.clock) := heap_alloc_new w _
  unfold IM.look
  simp only [Instr.lookup, Sem.run_bind, run_underlying ht, MapKept.run_getObj_map hb, MapKept.run_checkKey h3 (isKey_int k), run_findKey_im h3, Result.andThen, Sem.run_pure]
  rcases m.find k with ⟨h, _⟩ | ⟨j, e, h, _⟩
  · rw [h]; simp [hz]
  · rw [h]; simp
end
theorem IM.look_none (k : Int) (z : Value) : IM.none.look k z = z := rfl
theorem findNow_append (k : Int) : ∀ (l r : List MapEntry) (i : Nat), (∀ x ∈ l, ∃ n, x.key = .int .i64 n) →
    Instr.findNow (.int .i64) (.int .i64 k) (l ++ r) i = if l.any (fun x => keyIs k x.key) = true then Instr.findNow (.int .i64) (.int .i64 k) l i else Instr.findNow (.int .i64) (.int .i64 k) r (i + l.length)
  | [], r, i, _ => by simp
  | x :: l, r, i, h => by
    obtain ⟨n, hn⟩ := h x (.head _)
    have ih := findNow_append k l r (i + 1) (fun y hy => h y (.tail _ hy))
    simp only [List.cons_append, Instr.findNow, hn, Instr.sameNow, if_true, List.any_cons, keyIs_int]
    by_cases e : k = n
    · subst e; simp
    · have e1 : (k == n) = false := by simpa using e
      have e2 : (n == k) = false := by simpa using fun q => e (Eq.symm q)
      rw [e1, e2]
      simp only [ih, Bool.false_or, List.length_cons]
      rw [show i + 1 + l.length = i + (l.length + 1) by omega]
theorem IM.look_ins (m : IM) (k i : Int) (v z : Value) (hn : m.has k = false) : (m.ins k v).look i z = if k = i then v else m.look i z := by
  unfold IM.look IM.ins
  simp only [Array.toList_push]
  rw [findNow_append i m.es.toList _ 0 m.keys]
  by_cases h : k = i
  · subst h
    have hn' : m.es.toList.any (fun x => keyIs k x.key) = false := hn
    rw [hn', if_pos rfl]
    simp [Instr.findNow, Instr.sameNow]
  · rw [if_neg h]
    by_cases hh : m.es.toList.any (fun x => keyIs i x.key) = true
    · rw [if_pos hh]
    · rw [if_neg hh]
      have e1 : (i == k) = false := by simpa using fun q => h (Eq.symm q)
      simp only [Instr.findNow, Instr.sameNow, if_true, e1]
      rcases m.find i with ⟨h1, _⟩ | ⟨j, e, _, h2, h3⟩
      · rw [h1]
      · exfalso
        exact hh (List.any_eq_true.2 ⟨e, List.mem_of_getElem? h2, by rw [h3]; simp [keyIs]⟩)

/-- The world behind: a map in a new block, some draws. -/
def MW (w : World) (m : IM) (j : Nat) : World := (w.alloc m.obj).drewN j
theorem MW_drew (w : World) (m : IM) (j : Nat) : (MW w m j).drew = MW w m (j + 1) := rfl
theorem MW_alloc (w : World) (m : IM) (j : Nat) : MW w m j = (w.drewN j).alloc m.obj := rfl
theorem run_make_mw65 (w : World) : (Instr.makeMap 65 .none).run Try.prog w = .ok (.map (some w.heap.size)) (MW w IM.none 0) := rfl
theorem run_insert_mw65 (w : World) (m : IM) (j : Nat) (k : Int) (v : Value) (hn : m.has k = false) :
    (Instr.mapUpdate 65 (.map (some w.heap.size)) (.int .i64 k) v).run Try.prog (MW w m j) = .ok () (MW w (m.ins k v) j) :=
  run_insert Try.und65 Try.und3 (w.drewN j) m k v hn
theorem zero64 (w : World) : (zeroValue 64).run Try.prog w = .ok .nilFunc w := (zero_of_info (n := 1) (by kernel_rfl)).1 w
theorem run_lookup_mw65 (w : World) (m : IM) (j : Nat) (k : Int) :
    (Instr.lookup 65 (.map (some w.heap.size)) (.int .i64 k) false).run Try.prog (MW w m j) = .ok (m.look k .nilFunc) (MW w m j) :=
  run_lookup_im Try.und65 Try.und3 zero64 (w.drewN j) m k
theorem run_make_mw67 (w : World) : (Instr.makeMap 67 .none).run Try.prog w = .ok (.map (some w.heap.size)) (MW w IM.none 0) := rfl
theorem run_insert_mw67 (w : World) (m : IM) (j : Nat) (k : Int) (v : Value) (hn : m.has k = false) :
    (Instr.mapUpdate 67 (.map (some w.heap.size)) (.int .i64 k) v).run Try.prog (MW w m j) = .ok () (MW w (m.ins k v) j) :=
  run_insert Try.und67 Try.und3 (w.drewN j) m k v hn
theorem zero66 (w : World) : (zeroValue 66).run Try.prog w = .ok .nilFunc w := (zero_of_info (n := 1) (by kernel_rfl)).1 w
theorem run_lookup_mw67 (w : World) (m : IM) (j : Nat) (k : Int) :
    (Instr.lookup 67 (.map (some w.heap.size)) (.int .i64 k) false).run Try.prog (MW w m j) = .ok (m.look k .nilFunc) (MW w m j) :=
  run_lookup_im Try.und67 Try.und3 zero66 (w.drewN j) m k
theorem eqIn_nil {P : Program} (w : World) (d : Nat) (t : TypeId) {a b c} (h : P.underlying t = some (.func a b c)) :
    (Op.equalIn (d + 1) t .nilFunc .nilFunc).run P w = .ok true w := by simp [Op.equalIn, run_underlying h]
theorem eqIn_func {P : Program} (w : World) (d : Nat) (t : TypeId) (f : Fn) (x y : Array Value) {a b c} (h : P.underlying t = some (.func a b c)) :
    (Op.equalIn (d + 1) t (.func f x y) .nilFunc).run P w = .ok false w := by simp [Op.equalIn, run_underlying h]
theorem ne_nil64 (w : World) : (binOp .neq 64 .nilFunc .nilFunc).run Try.prog w = .ok (.bool false) w := by
  simp only [binOp]
  simp [Op.equal, Op.maxDepth, eqIn_nil w 9999 64 Try.underlying64]
theorem ne_func64 (f : Fn) (x y : Array Value) (w : World) : (binOp .neq 64 (.func f x y) .nilFunc).run Try.prog w = .ok (.bool true) w := by
  simp only [binOp]
  simp [Op.equal, Op.maxDepth, eqIn_func w 9999 64 f x y Try.underlying64]
theorem ne_nil66 (w : World) : (binOp .neq 66 .nilFunc .nilFunc).run Try.prog w = .ok (.bool false) w := by
  simp only [binOp]
  simp [Op.equal, Op.maxDepth, eqIn_nil w 9999 66 Try.underlying66]
theorem ne_func66 (f : Fn) (x y : Array Value) (w : World) : (binOp .neq 66 (.func f x y) .nilFunc).run Try.prog w = .ok (.bool true) w := by
  simp only [binOp]
  simp [Op.equal, Op.maxDepth, eqIn_func w 9999 66 f x y Try.underlying66]
end Go.Proofs.Ytlpfjjhjfmcfmaa
