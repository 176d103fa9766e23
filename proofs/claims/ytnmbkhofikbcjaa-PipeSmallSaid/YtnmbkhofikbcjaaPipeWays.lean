/- The document's pipe as a row of ways: what its deeds make of it, and that it is what the ring has. No condition. -/
import Derived.Test.YtnmbkhofikbcjaaPipeAll
import Derived.Test.YtnmbkhofikbcjaaPipeInv
namespace Go.Proofs.Ytnmbkhofikbcjaa
open Go.RowKit

/-- An answer on its way: what, and how many cycles it has to go. -/
abbrev Way := PC × Nat
def wayV (x : Way) : List Value := [.int .i64 x.1.wo, .int .u32 x.1.va, .int .i64 x.1.er, .int .i64 (x.2 : Nat)]
def wenc (l : List Way) : List Value := l.flatMap wayV
theorem wenc_append (a b : List Way) : wenc (a ++ b) = wenc a ++ wenc b := by simp [wenc]
theorem wenc_length (l : List Way) : (wenc l).length = l.length * 4 := by
  induction l with
  | nil => rfl
  | cons x l ih => simp [wenc, wayV] at ih ⊢; omega
theorem wenc_at {l : List Way} {i : Nat} {x : Way} (h : l[i]? = some x) :
    (wenc l)[i * 4]? = some (.int .i64 x.1.wo) ∧ (wenc l)[i * 4 + 1]? = some (.int .u32 x.1.va) ∧ (wenc l)[i * 4 + 2]? = some (.int .i64 x.1.er) ∧ (wenc l)[i * 4 + 3]? = some (.int .i64 (x.2 : Nat)) := by
  induction l generalizing i with
  | nil => simp at h
  | cons y l ih =>
    cases i with
    | zero =>
      simp at h; subst h
      exact ⟨rfl, rfl, rfl, rfl⟩
    | succ i =>
      have h' : l[i]? = some x := by simpa using h
      obtain ⟨a, b, c, d⟩ := ih h'
      have e : wenc (y :: l) = wayV y ++ wenc l := rfl
      have e4 : (wayV y).length = 4 := rfl
      have k : ∀ j, (wenc (y :: l))[(i + 1) * 4 + j]? = (wenc l)[i * 4 + j]? := fun j => by
        rw [e, List.getElem?_append_right (by rw [e4]; omega), e4]; congr 1; omega
      exact ⟨(k 0).trans a, (k 1).trans b, (k 2).trans c, (k 3).trans d⟩
theorem dues_at {l : List PC} {i : Nat} {x : PC} (h : l[i]? = some x) :
    (dues l)[i * 3]? = some (.int .i64 x.wo) ∧ (dues l)[i * 3 + 1]? = some (.int .u32 x.va) ∧ (dues l)[i * 3 + 2]? = some (.int .i64 x.er) := by
  induction l generalizing i with
  | nil => simp at h
  | cons y l ih =>
    cases i with
    | zero =>
      simp at h; subst h
      exact ⟨rfl, rfl, rfl⟩
    | succ i =>
      have h' : l[i]? = some x := by simpa using h
      obtain ⟨a, b, c⟩ := ih h'
      have e : dues (y :: l) = PC.due y ++ dues l := rfl
      have e4 : (PC.due y).length = 3 := rfl
      have k : ∀ j, (dues (y :: l))[(i + 1) * 3 + j]? = (dues l)[i * 3 + j]? := fun j => by
        rw [e, List.getElem?_append_right (by rw [e4]; omega), e4]; congr 1; omega
      exact ⟨(k 0).trans a, (k 1).trans b, (k 2).trans c⟩

/-- What a cycle leaves of a row, and what comes out. -/
def keep1 (x : Way) : List Way := if x.2 = 1 then [] else [(x.1, x.2 - 1)]
def kept (l : List Way) : List Way := l.flatMap keep1
def out1 (o : PC) (x : Way) : PC := if x.2 = 1 then x.1 else o
def outw (l : List Way) : PC := l.foldl out1 PC.no
theorem kept_append (a b : List Way) : kept (a ++ b) = kept a ++ kept b := by simp [kept]
theorem kept_take {l : List Way} {t : Nat} {x : Way} (h : l[t]? = some x) : kept (l.take (t + 1)) = kept (l.take t) ++ keep1 x := by
  rw [List.take_add_one, h, kept_append]; simp [kept]
theorem outw_take {l : List Way} {t : Nat} {x : Way} (h : l[t]? = some x) : outw (l.take (t + 1)) = out1 (outw (l.take t)) x := by
  rw [List.take_add_one, h]; unfold outw; rw [List.foldl_append]; rfl
theorem kept_le (l : List Way) : (kept l).length ≤ l.length := by
  induction l with
  | nil => exact Nat.le_refl _
  | cons x l ih =>
    have e : kept (x :: l) = keep1 x ++ kept l := rfl
    have : (keep1 x).length ≤ 1 := by unfold keep1; split <;> simp
    rw [e, List.length_append, List.length_cons]; omega

/-- What the ring has, as a row. -/
def PS.wstep (s : PS) (n : Nat) : List Way := if (s.cells (s.at_ n)).is then [(s.cells (s.at_ n), n)] else []
def PS.ways (s : PS) : List Way := (List.range s.lat).flatMap fun j => s.wstep (j + 1)
def PS.clean (s : PS) : Prop := ∀ k, (s.cells k).is = false → s.cells k = PC.no

theorem PS.ways_mem {s : PS} {x : Way} (h : x ∈ s.ways) : x.1.is = true ∧ 1 ≤ x.2 ∧ x.2 ≤ s.lat := by
  obtain ⟨j, hj, hx⟩ := List.mem_flatMap.1 h
  have hj' := List.mem_range.1 hj
  unfold PS.wstep at hx
  split at hx
  · rename_i hc
    obtain rfl : x = _ := by simpa using hx
    exact ⟨hc, by simp, hj'⟩
  · simp at hx
theorem PS.ways_upto (s : PS) : s.ways.map (·.1) = s.upto s.lat := by
  unfold PS.ways PS.upto
  rw [List.map_flatMap]
  refine congrArg (fun f => List.flatMap f (List.range s.lat)) (funext fun j => ?_)
  unfold PS.wstep PS.step
  split <;> rfl
theorem PS.ways_le (s : PS) : s.ways.length ≤ s.lat := by
  have := PS.upto_le s s.lat
  rw [← PS.ways_upto, List.length_map] at this
  exact this
theorem PS.ways_length (s : PS) : (s.upto s.lat).length = s.ways.length := by rw [← PS.ways_upto, List.length_map]
theorem PS.upto_at {s : PS} {i : Nat} {x : Way} (h : s.ways[i]? = some x) : (s.upto s.lat)[i]? = some x.1 := by
  rw [← PS.ways_upto, List.getElem?_map, h]; rfl

def headLeft : List Way → Nat
  | [] => 0
  | x :: _ => x.2
theorem PS.idleFrom_ways (s : PS) : ∀ k n, s.idleFrom k n = headLeft ((List.range k).flatMap fun j => s.wstep (n + j))
  | 0, _ => rfl
  | k + 1, n => by
    rw [PS.idleFrom_succ, List.range_succ_eq_map, List.flatMap_cons, List.flatMap_map]
    have e : (fun j => s.wstep (n + Nat.succ j)) = fun j => s.wstep (n + 1 + j) := funext fun j => by rw [show n + Nat.succ j = n + 1 + j by omega]
    rw [e, PS.idleFrom_ways s k (n + 1)]
    simp only [Nat.add_zero]
    cases hc : (s.cells (s.at_ n)).is
    · have : s.wstep n = [] := by unfold PS.wstep; rw [hc]; rfl
      rw [this]; rfl
    · have : s.wstep n = [(s.cells (s.at_ n), n)] := by unfold PS.wstep; rw [hc]; rfl
      rw [this]; rfl
theorem PS.idle_ways (s : PS) : s.idle = headLeft s.ways := by
  unfold PS.idle PS.ways
  rw [PS.idleFrom_ways]
  refine congrArg (fun f => headLeft (List.flatMap f (List.range s.lat))) (funext fun j => ?_)
  rw [Nat.add_comm]

theorem PS.at_eq {s : PS} (h : s.ok) {n : Nat} (hn : n < s.lat) (h0 : 0 < n) : s.at_ n ≠ s.now := by
  have := mod_ne h.pos (show s.now < s.now + n by omega) (by omega)
  rw [Nat.mod_eq_of_lt h.now] at this
  exact fun e => this e.symm
theorem PS.at_lat {s : PS} (h : s.ok) : s.at_ s.lat = s.now := by
  unfold PS.at_; rw [Nat.add_mod_right, Nat.mod_eq_of_lt h.now]
theorem PS.at_one (s : PS) : s.at_ 1 = s.next := rfl
theorem PS.tick_now (s : PS) : s.tick.now = s.next := rfl
theorem PS.tick_lat (s : PS) : s.tick.lat = s.lat := rfl
theorem PS.tick_at (s : PS) (n : Nat) : s.tick.at_ n = s.at_ (n + 1) := by
  show ((s.now + 1) % s.lat + n) % s.lat = (s.now + (n + 1)) % s.lat
  rw [Nat.mod_add_mod]; congr 1; omega
theorem PS.tick_ok {s : PS} (h : s.ok) : s.tick.ok := ⟨h.pos, h.le, PS.next_lt h⟩
theorem PS.tick_cell (s : PS) (k : Nat) : s.tick.cells k = if k = s.next then PC.no else s.cells k := rfl
theorem PS.tick_clean {s : PS} (h : s.clean) : s.tick.clean := fun k hk => by
  rw [PS.tick_cell] at hk ⊢
  split
  · rfl
  · rw [if_neg (by assumption)] at hk; exact h k hk
theorem PS.at_next {s : PS} (h : s.ok) {n : Nat} (h1 : 1 < n) (hn : n ≤ s.lat) : s.at_ n ≠ s.next := by
  have := mod_ne h.pos (show s.now + 1 < s.now + n by omega) (by omega)
  exact fun e => this e.symm
theorem kept_step (s : PS) (n : Nat) (h : 1 < n) (h' : s.ok) (hn : n ≤ s.lat) : kept (s.wstep n) = s.tick.wstep (n - 1) := by
  unfold PS.wstep
  rw [PS.tick_at, show n - 1 + 1 = n by omega, PS.tick_cell, if_neg (PS.at_next h' h hn)]
  split
  · simp only [kept, List.flatMap_cons, List.flatMap_nil, List.append_nil, keep1]
    rw [if_neg (by omega)]
  · rfl
theorem PS.ways_cons (s : PS) {m : Nat} (h : s.lat = m + 1) : s.ways = s.wstep 1 ++ (List.range m).flatMap fun j => s.wstep (j + 2) := by
  unfold PS.ways
  rw [h, List.range_succ_eq_map, List.flatMap_cons, List.flatMap_map]
theorem PS.ways_snoc (s : PS) {m : Nat} (h : s.lat = m + 1) : s.ways = ((List.range m).flatMap fun j => s.wstep (j + 1)) ++ s.wstep s.lat := by
  unfold PS.ways
  rw [h, List.range_succ, List.flatMap_append]; simp
theorem flatMap_congr' {α β : Type} {l : List α} {f g : α → List β} (h : ∀ x ∈ l, f x = g x) : l.flatMap f = l.flatMap g := by
  induction l with
  | nil => rfl
  | cons x l ih =>
    rw [List.flatMap_cons, List.flatMap_cons, h x (by simp), ih fun y hy => h y (by simp [hy])]
/-- What a cycle leaves is what the ring has then. -/
theorem PS.ways_tick {s : PS} (h : s.ok) : s.tick.ways = kept s.ways := by
  obtain ⟨m, hm⟩ : ∃ m, s.lat = m + 1 := ⟨s.lat - 1, by have := h.pos; omega⟩
  rw [PS.ways_cons s hm, PS.ways_snoc s.tick (m := m) (by rw [PS.tick_lat]; exact hm), kept_append]
  have e1 : kept (s.wstep 1) = [] := by
    unfold PS.wstep
    split
    · simp [kept, keep1]
    · rfl
  have e2 : s.tick.wstep s.tick.lat = [] := by
    unfold PS.wstep
    rw [PS.at_lat (PS.tick_ok h), PS.tick_now, PS.tick_cell, if_pos rfl]; rfl
  rw [e1, e2, List.append_nil, List.nil_append]
  unfold kept
  rw [List.flatMap_assoc]
  refine flatMap_congr' fun j hj => ?_
  have hj := List.mem_range.1 hj
  exact (kept_step s (j + 2) (by omega) h (by omega)).symm
theorem foldl_out (l : List Way) (o : PC) (h : ∀ x ∈ l, x.2 ≠ 1) : l.foldl out1 o = o := by
  induction l generalizing o with
  | nil => rfl
  | cons x l ih =>
    rw [List.foldl_cons]
    have : out1 o x = o := by unfold out1; rw [if_neg (h x (by simp))]
    rw [this]; exact ih o fun y hy => h y (by simp [hy])
/-- What comes out is what the ring's next cell has. -/
theorem PS.outw_ways {s : PS} (h : s.ok) (hc : s.clean) : outw s.ways = s.cells s.next := by
  obtain ⟨m, hm⟩ : ∃ m, s.lat = m + 1 := ⟨s.lat - 1, by have := h.pos; omega⟩
  rw [PS.ways_cons s hm]
  unfold outw
  rw [List.foldl_append]
  rw [foldl_out]
  · unfold PS.wstep
    rw [PS.at_one]
    split
    · rfl
    · rename_i hx
      exact (hc _ (by simpa using hx)).symm
  · intro x hx
    obtain ⟨j, _, hx⟩ := List.mem_flatMap.1 hx
    unfold PS.wstep at hx
    split at hx
    · obtain rfl : x = _ := by simpa using hx
      simp
    · simp at hx
theorem PS.puts_at (s : PS) (wo va er : Int) (n : Nat) : (s.puts wo va er).at_ n = s.at_ n := rfl
theorem PS.puts_cell (s : PS) (wo va er : Int) (k : Nat) : (s.puts wo va er).cells k = if k = s.now then ⟨true, wo, va, er⟩ else s.cells k := rfl
theorem PS.ways_puts {s : PS} (h : s.ok) (wo va er : Int) (hc : (s.cells s.now).is = false) : (s.puts wo va er).ways = s.ways ++ [(⟨true, wo, va, er⟩, s.lat)] := by
  obtain ⟨m, hm⟩ : ∃ m, s.lat = m + 1 := ⟨s.lat - 1, by have := h.pos; omega⟩
  rw [PS.ways_snoc s hm, PS.ways_snoc (s.puts wo va er) (m := m) hm]
  have e1 : s.wstep s.lat = [] := by unfold PS.wstep; rw [PS.at_lat h, hc]; rfl
  have e2 : (s.puts wo va er).wstep (s.puts wo va er).lat = [(⟨true, wo, va, er⟩, s.lat)] := by
    unfold PS.wstep
    rw [PS.puts_at, PS.puts_cell, show (s.puts wo va er).lat = s.lat from rfl, PS.at_lat h, if_pos rfl]; rfl
  rw [e1, e2, List.append_nil]
  congr 1
  refine flatMap_congr' fun j hj => ?_
  have hj := List.mem_range.1 hj
  unfold PS.wstep
  rw [PS.puts_at, PS.puts_cell, if_neg (PS.at_eq h (by omega) (by omega))]
theorem PS.puts_ok {s : PS} (h : s.ok) (wo va er : Int) : (s.puts wo va er).ok := ⟨h.pos, h.le, h.now⟩
theorem PS.puts_clean {s : PS} (h : s.clean) (wo va er : Int) : (s.puts wo va er).clean := fun k hk => by
  rw [PS.puts_cell] at hk ⊢
  split
  · rename_i e; rw [if_pos e] at hk; cases hk
  · rename_i e; rw [if_neg e] at hk; exact h k hk

/-- A put, whatever the pipe is in. -/
def PS.putA (s : PS) (wo va er : Int) : PS := if s.began = false then s else if (s.cells s.now).is then s else s.puts wo va er
def PS.perr (s : PS) : Int := if s.began = false then 9 else if (s.cells s.now).is then 7 else 0
theorem PS.putA_ok {s : PS} (h : s.ok) (wo va er : Int) : (s.putA wo va er).ok := by
  unfold PS.putA; split
  · exact h
  · split
    · exact h
    · exact PS.puts_ok h wo va er
theorem PS.putA_clean {s : PS} (h : s.clean) (wo va er : Int) : (s.putA wo va er).clean := by
  unfold PS.putA; split
  · exact h
  · split
    · exact h
    · exact PS.puts_clean h wo va er
theorem PS.fresh_ok {l : Nat} (h0 : 0 < l) (hl : l ≤ 16) : (PS.fresh l).ok := ⟨h0, hl, h0⟩
theorem PS.fresh_clean (l : Nat) : (PS.fresh l).clean := fun _ _ => rfl
theorem PS.fresh_ways (l : Nat) : (PS.fresh l).ways = [] := by
  unfold PS.ways
  refine List.flatMap_eq_nil_iff.2 fun j _ => rfl
theorem put_any (s : PS) (hs : s.ok) (hc : s.clean) (b : Nat) (wo va er : Int) (w : World) (hb : Blk w b s.enc 96) :
    Calls Try.prog 17 #[.pointer (some ⟨b, 0, none⟩), .agg #[.int .i64 wo, .int .u32 va, .int .i64 er]] w fun e w' => e = .returned (.int .i64 s.perr) ∧ Blk w' b (s.putA wo va er).enc 96 ∧ Upd (fun i => i = b) w w' := by
  unfold PS.perr PS.putA
  by_cases h1 : s.began = false
  · rw [if_pos h1, if_pos h1]
    refine (put_early s hs h1 b wo va er w hb).mono ?_
    rintro e w' ⟨rfl, U⟩
    exact ⟨rfl, Blk.upd U hb id, U.mono fun _ _ h => h.elim⟩
  · rw [if_neg h1, if_neg h1]
    have h1' : s.began = true := by simpa using h1
    by_cases h2 : (s.cells s.now).is = true
    · rw [if_pos h2, if_pos h2]
      refine (put_full s hs h1' h2 b wo va er w hb).mono ?_
      rintro e w' ⟨rfl, U⟩
      exact ⟨rfl, Blk.upd U hb id, U.mono fun _ _ h => h.elim⟩
    · rw [if_neg h2, if_neg h2]
      exact put_ok s hs h1' (hc _ (by simpa using h2)) b wo va er w hb
end Go.Proofs.Ytnmbkhofikbcjaa
