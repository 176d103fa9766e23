/- Rows of deeds and devices that a law makes by itself. No condition. -/
import Derived.Test.YtkhhmkcpbefadaaIrqDoesLaw
import Derived.Laws.MakeOwn
import Derived.Test.YtkhhmkcpbefadaaMade
namespace Go.Proofs.Ytkhhmkcpbefadaa
open Go.RowKit
/-- A deed, as cells. -/
structure DD where
  H : Int
  N : Int
  K : Int
  A : Option Addr
  n : Nat
  c : Nat
def DD.enc (d : DD) : List Value := [.int .i64 d.H, .int .i64 d.N, .int .i64 d.K, .slice d.A d.n d.c]
def dencL : List DD → List Value
  | [] => []
  | x :: l => x.enc ++ dencL l
theorem dencL_length : ∀ l, (dencL l).length = l.length * 4
  | [] => rfl
  | x :: l => by rw [dencL, List.length_append, dencL_length l, List.length_cons]; show 4 + _ = _; omega
theorem dencL_append : ∀ l m, dencL (l ++ m) = dencL l ++ dencL m
  | [], m => rfl
  | x :: l, m => by rw [List.cons_append, dencL, dencL_append l m, dencL, List.append_assoc]
theorem dencL_one : ∀ l, (dencL l).all (fun u => u.oneCell') = true
  | [] => rfl
  | x :: l => by rw [dencL, List.all_append, dencL_one l]; rfl
theorem dencL_at : ∀ (l : List DD) (i : Nat) (x : DD), l[i]? = some x → ∀ k, k < 4 → (dencL l)[i * 4 + k]? = x.enc[k]?
  | [], i, x, h, k, hk => by simp at h
  | y :: l, 0, x, h, k, hk => by
    simp at h
    subst h
    rw [dencL, List.getElem?_append_left (by show _ < 4; omega)]
    simp
  | y :: l, i + 1, x, h, k, hk => by
    rw [List.getElem?_cons_succ] at h
    rw [dencL, List.getElem?_append_right (by show 4 ≤ _; omega), show (i + 1) * 4 + k - y.enc.length = i * 4 + k by show _ - 4 = _; omega]
    exact dencL_at l i x h k hk
/-- The deed's levels are there. -/
def LvAt (w : World) (x : DD) : Prop := x.n ≤ 1000 ∧ ∃ LV, BoolsAt w x.A x.n LV
theorem LvAt.non {w w' : World} {x : DD} (u : Upd Non w w') (h : LvAt w x) : LvAt w' x := by
  obtain ⟨h1, LV, h2⟩ := h
  refine ⟨h1, LV, fun hn => ?_⟩
  obtain ⟨b, o, e, hc⟩ := h2 hn
  exact ⟨b, o, e, fun i hi => u.cell_eq id (hc i hi)⟩
theorem LvAt.zero {w : World} {x : DD} (h : x.n = 0) : LvAt w x := ⟨by omega, fun _ => false, fun hn => by omega⟩
noncomputable def lvOf (w : World) (x : DD) (h : LvAt w x) : Nat → Bool := h.2.choose
theorem lvOf_spec {w : World} {x : DD} (h : LvAt w x) : BoolsAt w x.A x.n (lvOf w x h) := h.2.choose_spec
def DD.no : DD := ⟨0, 0, 0, none, 0, 0⟩
open Classical in
theorem does_any (A : Option Addr) (n cc : Nat) (D : Option Addr) (dc : Nat) (l : List DD) (w : World) (hn : n ≤ 1000) (hdev : ∃ O N, DevsAt w A n O N) (hll : l.length ≤ 1000)
    (hc : 0 < l.length → ∃ b o, D = some ⟨b, o, none⟩ ∧ ∀ j u, (dencL l)[j]? = some u → w.cell? ⟨b, o + j, none⟩ = some u) (hl : ∀ x ∈ l, LvAt w x) :
    Calls Try.prog 6 #[.slice A n cc, .slice D l.length dc] w fun e w' => e = .returned (.bool true) ∧ Upd Non w w' := by
  obtain ⟨O, N, hdev⟩ := hdev
  have hx : ∀ i, i < l.length → l[i]? = some (l.getD i DD.no) := fun i hi => by rw [List.getD_eq_getElem?_getD, List.getElem?_eq_getElem hi]; rfl
  have hm : ∀ i, i < l.length → l.getD i DD.no ∈ l := fun i hi => List.mem_of_getElem? (hx i hi)
  refine does_law A n cc O N D dc ⟨l.length, fun i => (l.getD i DD.no).H, fun i => (l.getD i DD.no).N, fun i => (l.getD i DD.no).K, fun i => (l.getD i DD.no).A, fun i => (l.getD i DD.no).n, fun i => (l.getD i DD.no).c, fun i => if h : LvAt w (l.getD i DD.no) then lvOf w _ h else fun _ => false⟩ (by omega) w hdev ⟨fun hp => ?_, fun i hi => ?_, by show l.length ≤ _; omega, fun i hi => ?_⟩
  · obtain ⟨b, o, e, hc⟩ := hc hp
    refine ⟨b, o, e, fun i hi => ?_⟩
    have key : ∀ k u, k < 4 → (l.getD i DD.no).enc[k]? = some u → w.cell? ⟨b, o + i * 4 + k, none⟩ = some u := fun k u hk hu => by
      rw [Nat.add_assoc]
      exact hc _ u ((dencL_at l i _ (hx i hi) k hk).trans hu)
    exact ⟨key 0 _ (by decide) rfl, key 1 _ (by decide) rfl, key 2 _ (by decide) rfl, key 3 _ (by decide) rfl⟩
  · have h := hl _ (hm i hi)
    show BoolsAt w (l.getD i DD.no).A (l.getD i DD.no).n (if h : LvAt w (l.getD i DD.no) then lvOf w _ h else fun _ => false)
    rw [dif_pos h]
    exact lvOf_spec h
  · have h := (hl _ (hm i hi)).1
    show (l.getD i DD.no).n ≤ _
    omega
theorem does_own {A : Option Addr} {n cc : Nat} {D : Option Addr} {dc m base : Nat} {l : List DD} {w : World} (hn : n ≤ 1000) (hdev : ∃ O N, DevsAt w A n O N) (hll : l.length ≤ 1000) (hm : m = l.length)
    (ho : w.ownsRow base 45 4 (.slice D m dc) m (dencL l)) (hl : ∀ x ∈ l, LvAt w x) :
    Calls Try.prog 6 #[.slice A n cc, .slice D m dc] w fun e w' => e = .returned (.bool true) ∧ Upd Non w w' := by
  subst hm
  refine does_any A n cc D dc l w hn hdev hll (fun hp => ?_) hl
  obtain ⟨A', c', e, hc⟩ := own_cells ho
  obtain ⟨g, rfl, _, _, _, h8⟩ := hc hp
  cases e
  exact ⟨g, 0, rfl, fun j u hj => by rw [Nat.zero_add]; exact h8 j u hj⟩
theorem does_blk {A : Option Addr} {n cc g dc m : Nat} {l : List DD} {w : World} (hn : n ≤ 1000) (hdev : ∃ O N, DevsAt w A n O N) (hll : l.length ≤ 1000) (hm : m = l.length)
    (ho : Blk w g (dencL l).toArray 45) (hl : ∀ x ∈ l, LvAt w x) :
    Calls Try.prog 6 #[.slice A n cc, .slice (some ⟨g, 0, none⟩) m dc] w fun e w' => e = .returned (.bool true) ∧ Upd Non w w' := by
  subst hm
  exact does_any A n cc _ dc l w hn hdev hll (fun hp => ⟨g, 0, rfl, fun j u hj => by rw [Nat.zero_add]; exact ho.cell j (by simpa using hj)⟩) hl
theorem does_nil {A : Option Addr} {n cc : Nat} {w : World} (hn : n ≤ 1000) (hdev : ∃ O N, DevsAt w A n O N) :
    Calls Try.prog 6 #[.slice A n cc, .slice none 0 0] w fun e w' => e = .returned (.bool true) ∧ Upd Non w w' :=
  does_any A n cc none 0 [] w hn hdev (by decide) (fun h => absurd h (by decide)) (fun x h => by cases h)
theorem devs_nil {w : World} : ∃ O N, DevsAt w none 0 O N := ⟨fun _ => 0, fun _ => 0, fun h => absurd h (by decide)⟩
def dvL : List Dev → List Value
  | [] => []
  | x :: l => x.enc ++ dvL l
theorem dvL_at : ∀ (l : List Dev) (i : Nat) (x : Dev), l[i]? = some x → ∀ k, k < 5 → (dvL l)[i * 5 + k]? = x.enc[k]?
  | [], i, x, h, k, hk => by simp at h
  | y :: l, 0, x, h, k, hk => by
    simp at h
    subst h
    rw [dvL, List.getElem?_append_left (by show _ < 5; omega)]
    simp
  | y :: l, i + 1, x, h, k, hk => by
    rw [List.getElem?_cons_succ] at h
    rw [dvL, List.getElem?_append_right (by show 5 ≤ _; omega), show (i + 1) * 5 + k - y.enc.length = i * 5 + k by show _ - 5 = _; omega]
    exact dvL_at l i x h k hk
theorem devs_blk {w : World} {g n : Nat} {l : List Dev} (hm : n = l.length) (h : Blk w g (dvL l).toArray 31) : ∃ O N, DevsAt w (some ⟨g, 0, none⟩) n O N := by
  subst hm
  refine ⟨fun i => (l.getD i ⟨0, 0, 0, 0, 0⟩).o, fun i => (l.getD i ⟨0, 0, 0, 0, 0⟩).l, fun _ => ⟨g, 0, rfl, fun i hi => ?_⟩⟩
  have hx : l[i]? = some (l.getD i ⟨0, 0, 0, 0, 0⟩) := by rw [List.getD_eq_getElem?_getD, List.getElem?_eq_getElem hi]; rfl
  have key : ∀ k u, k < 5 → (l.getD i ⟨0, 0, 0, 0, 0⟩).enc[k]? = some u → w.cell? ⟨g, 0 + i * 5 + k, none⟩ = some u := fun k u hk hu => by
    rw [Nat.zero_add]
    refine h.cell _ ?_
    have := (dvL_at l i _ hx k hk).trans hu
    simpa using this
  exact ⟨_, _, _, key 0 _ (by decide) rfl, key 1 _ (by decide) rfl, key 2 _ (by decide) rfl, key 3 _ (by decide) rfl, key 4 _ (by decide) rfl⟩
theorem lv_blk {w : World} {x : DD} {g : Nat} {c : Array Value} (h : Blk w g c 4) (hA : x.A = some ⟨g, 0, none⟩) (hn : x.n ≤ 1000) (hc : ∀ i, i < x.n → ∃ v, c[i]? = some (.bool v)) : LvAt w x := by
  refine ⟨hn, fun i => match c[i]? with | some (.bool v) => v | _ => false, fun _ => ⟨g, 0, hA, fun i hi => ?_⟩⟩
  obtain ⟨v, hv⟩ := hc i hi
  rw [Nat.zero_add]
  refine (h.cell i hv).trans ?_
  simp only [hv]
/-- The same, with the block at hand. -/
def LvB (w : World) (x : DD) : Prop := x.n ≤ 1000 ∧ (x.n = 0 ∨ ∃ g c, x.A = some ⟨g, 0, none⟩ ∧ Blk w g c 4 ∧ ∀ i, i < x.n → ∃ v, c[i]? = some (.bool v))
theorem LvB.at {w : World} {x : DD} (h : LvB w x) : LvAt w x := by
  obtain ⟨h1, h2 | ⟨g, c, hA, hb, hc⟩⟩ := h
  · exact LvAt.zero h2
  · exact lv_blk hb hA h1 hc
theorem LvB.zero {w : World} {x : DD} (h : x.n = 0) : LvB w x := ⟨by omega, .inl h⟩
theorem LvB.non {w w' : World} {x : DD} (u : Upd Non w w') (h : LvB w x) : LvB w' x := by
  obtain ⟨h1, h2 | ⟨g, c, hA, hb, hc⟩⟩ := h
  · exact ⟨h1, .inl h2⟩
  · exact ⟨h1, .inr ⟨g, c, hA, Blk.upd u hb id, hc⟩⟩
/-- A row of deeds that is appended to is none of the levels' blocks. -/
theorem LvB.grown {w w' : World} {x : DD} {base n : Nat} {v : Value} {xs : List Value} (ho : w.ownsRow base 45 4 v n xs) (g : w.grownBy w' v.ownBlock) (h : LvB w x) : LvB w' x := by
  obtain ⟨h1, h2 | ⟨k, c, hA, hb, hc⟩⟩ := h
  · exact ⟨h1, .inl h2⟩
  · refine ⟨h1, .inr ⟨k, c, hA, blk_grown g hb (fun e => ?_), hc⟩⟩
    rcases ho.2 with ⟨rfl, _⟩ | ⟨r, cap, cur, rfl, _, hh, _⟩
    · cases e
    · cases e
      unfold Blk at hb
      rw [hb] at hh
      injection hh with hh
      injection hh with _ h4 _
      exact absurd h4 (by decide)
/-- A new row of one deed. -/
theorem own_one {w : World} {base g : Nat} {x : DD} (h : Blk w g x.enc.toArray 45) (hb : base ≤ g) : w.ownsRow base 45 4 (.slice (some ⟨g, 0, none⟩) 1 1) 1 (dencL [x]) :=
  ⟨rfl, .inr ⟨g, 1, _, rfl, hb, h, Nat.le_refl _, by decide, rfl, rfl⟩⟩
theorem lvb1 {w : World} {g : Nat} {v : Bool} {H N K : Int} (h : Blk w g #[.bool v] 4) : LvB w ⟨H, N, K, some ⟨g, 0, none⟩, 1, 1⟩ := by
  refine ⟨show 1 ≤ 1000 by decide, .inr ⟨g, _, rfl, h, fun i hi => ?_⟩⟩
  have hi' : i < 1 := hi
  obtain rfl : i = 0 := by omega
  exact ⟨_, rfl⟩
theorem lvb3 {w : World} {g : Nat} {u v x : Bool} {H N K : Int} (h : Blk w g #[.bool u, .bool v, .bool x] 4) : LvB w ⟨H, N, K, some ⟨g, 0, none⟩, 3, 3⟩ := by
  refine ⟨show 3 ≤ 1000 by decide, .inr ⟨g, _, rfl, h, fun i hi => ?_⟩⟩
  have hi' : i < 3 := hi
  rcases (show i = 0 ∨ i = 1 ∨ i = 2 by omega) with rfl | rfl | rfl
  all_goals exact ⟨_, rfl⟩
theorem lvbm {w : World} {g n : Nat} {H N K : Int} (hn : n ≤ 1000) (h : Blk w g (List.replicate n (.bool false)).toArray 4) : LvB w ⟨H, N, K, some ⟨g, 0, none⟩, n, n⟩ := by
  refine ⟨hn, .inr ⟨g, _, rfl, h, fun i hi => ⟨false, ?_⟩⟩⟩
  have hi' : i < n := hi
  simp [hi']
def ten (z : Int) (g2 g3 : Nat) : List DD := [⟨4, z, 1, none, 0, 0⟩, ⟨0, 0, 0, some ⟨g2, 0, none⟩, 3, 3⟩, ⟨5, 0, 1, none, 0, 0⟩, ⟨0, 0, 0, some ⟨g3, 0, none⟩, 3, 3⟩, ⟨5, 0, 1, none, 0, 0⟩, ⟨4, 255, 1, none, 0, 0⟩, ⟨5, 0, 1, none, 0, 0⟩, ⟨5, 0, 1, none, 0, 0⟩, ⟨6, 3, 1, none, 0, 0⟩, ⟨5, 0, 1, none, 0, 0⟩]
theorem does_ten (o1 l1 o2 l2 o3 l3 z : Int) (u1 u2 u3 v1 v2 v3 : Bool) (w : World) :
    Calls Try.prog 6 #[.slice (some ⟨w.heap.size, 0, none⟩) 3 3, .slice (some ⟨w.heap.size + 1 + 1 + 1, 0, none⟩) 10 10] ((((w.alloc (.cells #[.int .i64 0, .int .u32 0, .int .i64 0, .int .i64 o1, .int .i64 l1, .int .i64 0, .int .u32 0, .int .i64 0, .int .i64 o2, .int .i64 l2, .int .i64 0, .int .u32 0, .int .i64 0, .int .i64 o3, .int .i64 l3] 31)).alloc (.cells #[.bool u1, .bool u2, .bool u3] 4)).alloc (.cells #[.bool v1, .bool v2, .bool v3] 4)).alloc (.cells #[.int .i64 4, .int .i64 z, .int .i64 1, .slice none 0 0, .int .i64 0, .int .i64 0, .int .i64 0, .slice (some ⟨w.heap.size + 1, 0, none⟩) 3 3, .int .i64 5, .int .i64 0, .int .i64 1, .slice none 0 0, .int .i64 0, .int .i64 0, .int .i64 0, .slice (some ⟨w.heap.size + 1 + 1, 0, none⟩) 3 3, .int .i64 5, .int .i64 0, .int .i64 1, .slice none 0 0, .int .i64 4, .int .i64 255, .int .i64 1, .slice none 0 0, .int .i64 5, .int .i64 0, .int .i64 1, .slice none 0 0, .int .i64 5, .int .i64 0, .int .i64 1, .slice none 0 0, .int .i64 6, .int .i64 3, .int .i64 1, .slice none 0 0, .int .i64 5, .int .i64 0, .int .i64 1, .slice none 0 0] 45)) fun e w' => e = .returned (.bool true) ∧ Upd Non w w' := by
  obtain ⟨wx, hwx⟩ : ∃ x, x = ((((w.alloc (.cells #[.int .i64 0, .int .u32 0, .int .i64 0, .int .i64 o1, .int .i64 l1, .int .i64 0, .int .u32 0, .int .i64 0, .int .i64 o2, .int .i64 l2, .int .i64 0, .int .u32 0, .int .i64 0, .int .i64 o3, .int .i64 l3] 31)).alloc (.cells #[.bool u1, .bool u2, .bool u3] 4)).alloc (.cells #[.bool v1, .bool v2, .bool v3] 4)).alloc (.cells #[.int .i64 4, .int .i64 z, .int .i64 1, .slice none 0 0, .int .i64 0, .int .i64 0, .int .i64 0, .slice (some ⟨w.heap.size + 1, 0, none⟩) 3 3, .int .i64 5, .int .i64 0, .int .i64 1, .slice none 0 0, .int .i64 0, .int .i64 0, .int .i64 0, .slice (some ⟨w.heap.size + 1 + 1, 0, none⟩) 3 3, .int .i64 5, .int .i64 0, .int .i64 1, .slice none 0 0, .int .i64 4, .int .i64 255, .int .i64 1, .slice none 0 0, .int .i64 5, .int .i64 0, .int .i64 1, .slice none 0 0, .int .i64 5, .int .i64 0, .int .i64 1, .slice none 0 0, .int .i64 6, .int .i64 3, .int .i64 1, .slice none 0 0, .int .i64 5, .int .i64 0, .int .i64 1, .slice none 0 0] 45)) := ⟨_, rfl⟩
  have h1 : Blk wx w.heap.size (dvL [⟨0, 0, 0, o1, l1⟩, ⟨0, 0, 0, o2, l2⟩, ⟨0, 0, 0, o3, l3⟩]).toArray 31 := by rw [hwx]; exact Blk.alloc (Blk.alloc (Blk.alloc (Blk.new _ _ _)))
  have h2 : Blk wx (w.heap.size + 1) #[.bool u1, .bool u2, .bool u3] 4 := by rw [hwx]; exact Blk.alloc (Blk.alloc (Blk.newAt (by rw [World.size_alloc])))
  have h3 : Blk wx (w.heap.size + 1 + 1) #[.bool v1, .bool v2, .bool v3] 4 := by rw [hwx]; exact Blk.alloc (Blk.newAt (by rw [World.size_alloc, World.size_alloc]))
  have h4 : Blk wx (w.heap.size + 1 + 1 + 1) (dencL (ten z (w.heap.size + 1) (w.heap.size + 1 + 1))).toArray 45 := by rw [hwx]; exact Blk.newAt (by rw [World.size_alloc, World.size_alloc, World.size_alloc])
  have hU : Upd Non w wx := by rw [hwx]; ((with_reducible repeat' first | exact Upd.refl _ _ | apply Upd.drew | apply Upd.drewN | apply Upd.alloc | refine Upd.setCell ?_ ?_) <;> first | (intro _ _ h; exact h) | (intro _ _ h; exact h.elim) | (intro i h1 h2; exfalso; (try simp only at h2); omega) | (left; rfl) | (right; dsimp only; omega) | (right; omega))
  rw [← hwx]
  refine (does_blk (n := 3) (m := 10) (l := ten z (w.heap.size + 1) (w.heap.size + 1 + 1)) (show 3 ≤ 1000 by decide) (devs_blk (l := [⟨0, 0, 0, o1, l1⟩, ⟨0, 0, 0, o2, l2⟩, ⟨0, 0, 0, o3, l3⟩]) rfl h1) (show (10 : Nat) ≤ 1000 by decide) rfl h4 (fun x hx => ?_)).mono fun e w' h => ⟨h.1, Upd.call h.2 hU fun _ _ h => h⟩
  simp only [ten, List.mem_cons, List.not_mem_nil, or_false] at hx
  rcases hx with rfl | rfl | rfl | rfl | rfl | rfl | rfl | rfl | rfl | rfl
  all_goals first
    | exact LvAt.zero rfl
    | exact (lvb3 h2).at
    | exact (lvb3 h3).at
theorem does_dev (x y : Int) (w : World) :
    Calls Try.prog 6 #[.slice (some ⟨w.heap.size, 0, none⟩) 1 1, .slice none 0 0] (w.alloc (.cells #[.int .i64 0, .int .u32 0, .int .i64 0, .int .i64 x, .int .i64 y] 31)) fun e w' => e = .returned (.bool true) ∧ Upd Non (w.alloc (.cells #[.int .i64 0, .int .u32 0, .int .i64 0, .int .i64 x, .int .i64 y] 31)) w' :=
  does_nil (n := 1) (show 1 ≤ 1000 by decide) (devs_blk (l := [⟨0, 0, 0, x, y⟩]) rfl (Blk.new w _ 31))
def sixE (x y : Int) (g j : Nat) : List DD := [⟨1, x, y, none, 0, 0⟩, ⟨3, x, y, none, 0, 0⟩, ⟨4, 255, x, none, 0, 0⟩, ⟨0, 0, 0, some ⟨g, 0, none⟩, j, j⟩, ⟨2, x, 0, none, 0, 0⟩, ⟨5, 0, y, none, 0, 0⟩]
theorem does_ends (x y : Int) (j gd : Nat) (Z : Array Value) (hZ : Z = (List.replicate j (Value.bool false)).toArray) (hj : j ≤ 1000) (w : World) (hd : Blk w gd (dvL [⟨0, 0, 0, 2, 5⟩]).toArray 31) :
    Calls Try.prog 6 #[.slice (some ⟨gd, 0, none⟩) 1 1, .slice (some ⟨w.heap.size + 1, 0, none⟩) 6 6] ((w.alloc (.cells Z 4)).alloc (.cells #[.int .i64 1, .int .i64 x, .int .i64 y, .slice none 0 0, .int .i64 3, .int .i64 x, .int .i64 y, .slice none 0 0, .int .i64 4, .int .i64 255, .int .i64 x, .slice none 0 0, .int .i64 0, .int .i64 0, .int .i64 0, .slice (some ⟨w.heap.size, 0, none⟩) j j, .int .i64 2, .int .i64 x, .int .i64 0, .slice none 0 0, .int .i64 5, .int .i64 0, .int .i64 y, .slice none 0 0] 45)) fun e w' => e = .returned (.bool true) ∧ Upd Non ((w.alloc (.cells Z 4)).alloc (.cells #[.int .i64 1, .int .i64 x, .int .i64 y, .slice none 0 0, .int .i64 3, .int .i64 x, .int .i64 y, .slice none 0 0, .int .i64 4, .int .i64 255, .int .i64 x, .slice none 0 0, .int .i64 0, .int .i64 0, .int .i64 0, .slice (some ⟨w.heap.size, 0, none⟩) j j, .int .i64 2, .int .i64 x, .int .i64 0, .slice none 0 0, .int .i64 5, .int .i64 0, .int .i64 y, .slice none 0 0] 45)) w' := by
  obtain ⟨wx, hwx⟩ : ∃ wz, wz = ((w.alloc (.cells Z 4)).alloc (.cells #[.int .i64 1, .int .i64 x, .int .i64 y, .slice none 0 0, .int .i64 3, .int .i64 x, .int .i64 y, .slice none 0 0, .int .i64 4, .int .i64 255, .int .i64 x, .slice none 0 0, .int .i64 0, .int .i64 0, .int .i64 0, .slice (some ⟨w.heap.size, 0, none⟩) j j, .int .i64 2, .int .i64 x, .int .i64 0, .slice none 0 0, .int .i64 5, .int .i64 0, .int .i64 y, .slice none 0 0] 45)) := ⟨_, rfl⟩
  have h2 : Blk wx w.heap.size (List.replicate j (Value.bool false)).toArray 4 := by rw [hwx, ← hZ]; exact Blk.alloc (Blk.new _ _ _)
  have h4 : Blk wx (w.heap.size + 1) (dencL (sixE x y w.heap.size j)).toArray 45 := by rw [hwx]; exact Blk.newAt (by rw [World.size_alloc])
  have hU : Upd Non w wx := by rw [hwx]; ((with_reducible repeat' first | exact Upd.refl _ _ | apply Upd.drew | apply Upd.drewN | apply Upd.alloc | refine Upd.setCell ?_ ?_) <;> first | (intro _ _ h; exact h) | (intro _ _ h; exact h.elim) | (intro i h1 h2; exfalso; (try simp only at h2); omega) | (left; rfl) | (right; dsimp only; omega) | (right; omega))
  have h1 : Blk wx gd (dvL [⟨0, 0, 0, 2, 5⟩]).toArray 31 := Blk.upd hU hd id
  rw [← hwx]
  refine does_blk (n := 1) (m := 6) (l := sixE x y w.heap.size j) (show 1 ≤ 1000 by decide) (devs_blk (l := [⟨0, 0, 0, 2, 5⟩]) rfl h1) (show (6 : Nat) ≤ 1000 by decide) rfl h4 (fun z hz => ?_)
  simp only [sixE, List.mem_cons, List.not_mem_nil, or_false] at hz
  rcases hz with rfl | rfl | rfl | rfl | rfl | rfl
  all_goals first
    | exact LvAt.zero rfl
    | exact (lvbm hj h2).at
theorem make_bools (j : Nat) (hj : j ≤ 1000) (w : World) : (Instr.makeSlice 22 (.int .i64 j) (.int .i64 j)).run Try.prog w = .ok (.slice (some ⟨w.heap.size, 0, none⟩) j j) (w.alloc (.cells (List.replicate j (Value.bool false)).toArray 4)) := by
  obtain ⟨i, hi, hz0, hz1, hz2⟩ := info_parts (show (Try.prog.info? 4).map (fun i => (i.zero, i.size, i.bytes)) = some (some (.bool false), 1, 1) by kernel_rfl)
  have hr := run_make (P := Try.prog) w 22 4 i _ Try.underlying22 hi hz0 .i64 .i64 (j : Int) (j : Int) (by omega) (Int.le_refl _) (by rw [hz2]; omega) (by omega)
  rw [hz1, Int.toNat_natCast, show (Value.bool false).cells = #[.bool false] from rfl, made_rep] at hr
  exact hr
def eight : Array Value := #[.int .i64 (-9223372036854775808), .int .i64 (-2), .int .i64 (-1), .int .i64 0, .int .i64 1, .int .i64 7, .int .i64 8, .int .i64 9223372036854775807]
theorem eight_at (j : Nat) (h : j < 8) : ∃ z : Int, eight[j]? = some (.int .i64 z) := by
  rcases lt8 h with rfl | rfl | rfl | rfl | rfl | rfl | rfl | rfl
  all_goals exact ⟨_, rfl⟩
/-- What the walk of the ends holds. -/
theorem ES_non {a b : World} {g i j : Nat} {x y : Int} (u : Upd Non a b) (h : a.cell? ⟨g, i, none⟩ = some (.int .i64 x) ∧ a.cell? ⟨g, j, none⟩ = some (.int .i64 y)) : b.cell? ⟨g, i, none⟩ = some (.int .i64 x) ∧ b.cell? ⟨g, j, none⟩ = some (.int .i64 y) := ⟨u.cell_eq id h.1, u.cell_eq id h.2⟩
theorem does_16a (Z B : Array Value) (hZ : Z = (dvL (List.replicate 16 ⟨0, 0, 0, 0, 0⟩)).toArray) (hB : B = (List.replicate 16 (Value.bool false)).toArray) (w : World) :
    Calls Try.prog 6 #[.slice (some ⟨w.heap.size, 0, none⟩) 16 16, .slice (some ⟨w.heap.size + 1 + 1, 0, none⟩) 1 1] (((w.alloc (.cells Z 31)).alloc (.cells B 4)).alloc (.cells #[.int .i64 0, .int .i64 0, .int .i64 0, .slice (some ⟨w.heap.size + 1, 0, none⟩) 16 16] 45)).drew fun e w' => e = .returned (.bool true) ∧ Upd Non w w' := by
  obtain ⟨wx, hwx⟩ : ∃ wz, wz = (((w.alloc (.cells Z 31)).alloc (.cells B 4)).alloc (.cells #[.int .i64 0, .int .i64 0, .int .i64 0, .slice (some ⟨w.heap.size + 1, 0, none⟩) 16 16] 45)).drew := ⟨_, rfl⟩
  have h1 : Blk wx (w.heap.size) (dvL (List.replicate 16 ⟨0, 0, 0, 0, 0⟩)).toArray 31 := by rw [hwx, ← hZ]; exact Blk.drew (Blk.alloc (Blk.alloc (Blk.new _ _ _)))
  have h2 : Blk wx (w.heap.size + 1) (List.replicate 16 (Value.bool false)).toArray 4 := by rw [hwx, ← hB]; exact Blk.drew (Blk.alloc (Blk.newAt (by rw [World.size_alloc])))
  have h4 : Blk wx (w.heap.size + 1 + 1) (dencL [⟨0, 0, 0, some ⟨w.heap.size + 1, 0, none⟩, 16, 16⟩]).toArray 45 := by rw [hwx]; exact Blk.drew (Blk.newAt (by rw [World.size_alloc, World.size_alloc]))
  have hU : Upd Non w wx := by rw [hwx]; ((with_reducible repeat' first | exact Upd.refl _ _ | apply Upd.drew | apply Upd.drewN | apply Upd.alloc | refine Upd.setCell ?_ ?_) <;> first | (intro _ _ h; exact h) | (intro _ _ h; exact h.elim) | (intro i h1 h2; exfalso; (try simp only at h2); omega) | (left; rfl) | (right; dsimp only; omega) | (right; omega))
  rw [← hwx]
  refine (does_blk (n := 16) (m := 1) (l := [⟨0, 0, 0, some ⟨w.heap.size + 1, 0, none⟩, 16, 16⟩]) (show 16 ≤ 1000 by decide) (devs_blk (l := List.replicate 16 ⟨0, 0, 0, 0, 0⟩) rfl h1) (show (1 : Nat) ≤ 1000 by decide) rfl h4 (fun z hz => ?_)).mono fun e w' h => ⟨h.1, Upd.call h.2 hU fun _ _ h => h⟩
  obtain rfl : z = ⟨0, 0, 0, some ⟨w.heap.size + 1, 0, none⟩, 16, 16⟩ := by simpa using hz
  exact (lvbm (by decide) h2).at
theorem does_16b (Z B : Array Value) (hZ : Z = (dvL (List.replicate 16 ⟨0, 0, 0, 0, 0⟩)).toArray) (hB : B = (List.replicate 16 (Value.bool false)).toArray) (w : World) :
    Calls Try.prog 6 #[.slice (some ⟨w.heap.size + 1, 0, none⟩) 16 16, .slice (some ⟨w.heap.size + 1 + 1, 0, none⟩) 1 1] (((w.alloc (.cells B 4)).alloc (.cells Z 31)).alloc (.cells #[.int .i64 0, .int .i64 0, .int .i64 0, .slice (some ⟨w.heap.size, 0, none⟩) 16 16] 45)).drew fun e w' => e = .returned (.bool true) ∧ Upd Non w w' := by
  obtain ⟨wx, hwx⟩ : ∃ wz, wz = (((w.alloc (.cells B 4)).alloc (.cells Z 31)).alloc (.cells #[.int .i64 0, .int .i64 0, .int .i64 0, .slice (some ⟨w.heap.size, 0, none⟩) 16 16] 45)).drew := ⟨_, rfl⟩
  have h1 : Blk wx (w.heap.size + 1) (dvL (List.replicate 16 ⟨0, 0, 0, 0, 0⟩)).toArray 31 := by rw [hwx, ← hZ]; exact Blk.drew (Blk.alloc (Blk.newAt (by rw [World.size_alloc])))
  have h2 : Blk wx (w.heap.size) (List.replicate 16 (Value.bool false)).toArray 4 := by rw [hwx, ← hB]; exact Blk.drew (Blk.alloc (Blk.alloc (Blk.new _ _ _)))
  have h4 : Blk wx (w.heap.size + 1 + 1) (dencL [⟨0, 0, 0, some ⟨w.heap.size, 0, none⟩, 16, 16⟩]).toArray 45 := by rw [hwx]; exact Blk.drew (Blk.newAt (by rw [World.size_alloc, World.size_alloc]))
  have hU : Upd Non w wx := by rw [hwx]; ((with_reducible repeat' first | exact Upd.refl _ _ | apply Upd.drew | apply Upd.drewN | apply Upd.alloc | refine Upd.setCell ?_ ?_) <;> first | (intro _ _ h; exact h) | (intro _ _ h; exact h.elim) | (intro i h1 h2; exfalso; (try simp only at h2); omega) | (left; rfl) | (right; dsimp only; omega) | (right; omega))
  rw [← hwx]
  refine (does_blk (n := 16) (m := 1) (l := [⟨0, 0, 0, some ⟨w.heap.size, 0, none⟩, 16, 16⟩]) (show 16 ≤ 1000 by decide) (devs_blk (l := List.replicate 16 ⟨0, 0, 0, 0, 0⟩) rfl h1) (show (1 : Nat) ≤ 1000 by decide) rfl h4 (fun z hz => ?_)).mono fun e w' h => ⟨h.1, Upd.call h.2 hU fun _ _ h => h⟩
  obtain rfl : z = ⟨0, 0, 0, some ⟨w.heap.size, 0, none⟩, 16, 16⟩ := by simpa using hz
  exact (lvbm (by decide) h2).at
theorem does_16c (Z B : Array Value) (hZ : Z = (dvL (List.replicate 16 ⟨0, 0, 0, 0, 0⟩)).toArray) (hB : B = (List.replicate 16 (Value.bool false)).toArray) (w : World) :
    Calls Try.prog 6 #[.slice (some ⟨w.heap.size + 1 + 1, 0, none⟩) 16 16, .slice (some ⟨w.heap.size + 1, 0, none⟩) 1 1] (((w.alloc (.cells B 4)).alloc (.cells #[.int .i64 0, .int .i64 0, .int .i64 0, .slice (some ⟨w.heap.size, 0, none⟩) 16 16] 45)).alloc (.cells Z 31)).drew fun e w' => e = .returned (.bool true) ∧ Upd Non w w' := by
  obtain ⟨wx, hwx⟩ : ∃ wz, wz = (((w.alloc (.cells B 4)).alloc (.cells #[.int .i64 0, .int .i64 0, .int .i64 0, .slice (some ⟨w.heap.size, 0, none⟩) 16 16] 45)).alloc (.cells Z 31)).drew := ⟨_, rfl⟩
  have h1 : Blk wx (w.heap.size + 1 + 1) (dvL (List.replicate 16 ⟨0, 0, 0, 0, 0⟩)).toArray 31 := by rw [hwx, ← hZ]; exact Blk.drew (Blk.newAt (by rw [World.size_alloc, World.size_alloc]))
  have h2 : Blk wx (w.heap.size) (List.replicate 16 (Value.bool false)).toArray 4 := by rw [hwx, ← hB]; exact Blk.drew (Blk.alloc (Blk.alloc (Blk.new _ _ _)))
  have h4 : Blk wx (w.heap.size + 1) (dencL [⟨0, 0, 0, some ⟨w.heap.size, 0, none⟩, 16, 16⟩]).toArray 45 := by rw [hwx]; exact Blk.drew (Blk.alloc (Blk.newAt (by rw [World.size_alloc])))
  have hU : Upd Non w wx := by rw [hwx]; ((with_reducible repeat' first | exact Upd.refl _ _ | apply Upd.drew | apply Upd.drewN | apply Upd.alloc | refine Upd.setCell ?_ ?_) <;> first | (intro _ _ h; exact h) | (intro _ _ h; exact h.elim) | (intro i h1 h2; exfalso; (try simp only at h2); omega) | (left; rfl) | (right; dsimp only; omega) | (right; omega))
  rw [← hwx]
  refine (does_blk (n := 16) (m := 1) (l := [⟨0, 0, 0, some ⟨w.heap.size, 0, none⟩, 16, 16⟩]) (show 16 ≤ 1000 by decide) (devs_blk (l := List.replicate 16 ⟨0, 0, 0, 0, 0⟩) rfl h1) (show (1 : Nat) ≤ 1000 by decide) rfl h4 (fun z hz => ?_)).mono fun e w' h => ⟨h.1, Upd.call h.2 hU fun _ _ h => h⟩
  obtain rfl : z = ⟨0, 0, 0, some ⟨w.heap.size, 0, none⟩, 16, 16⟩ := by simpa using hz
  exact (lvbm (by decide) h2).at
theorem does_17 (Z : Array Value) (hZ : Z = (dvL (List.replicate 17 ⟨0, 0, 0, 0, 0⟩)).toArray) (w : World) :
    Calls Try.prog 6 #[.slice (some ⟨w.heap.size, 0, none⟩) 17 17, .slice none 0 0] (w.alloc (.cells Z 31)) fun e w' => e = .returned (.bool true) ∧ Upd Non w w' :=
  (does_nil (n := 17) (show 17 ≤ 1000 by decide) (devs_blk (l := List.replicate 17 ⟨0, 0, 0, 0, 0⟩) rfl (hZ ▸ Blk.new w Z 31))).mono fun e w' h => ⟨h.1, Upd.call h.2 (Upd.refl _ _).alloc fun _ _ h => h⟩
theorem does_01 (w : World) :
    Calls Try.prog 6 #[.slice none 0 0, .slice (some ⟨w.heap.size, 0, none⟩) 1 1] (w.alloc (.cells #[.int .i64 0, .int .i64 0, .int .i64 0, .slice none 0 0] 45)) fun e w' => e = .returned (.bool true) ∧ Upd Non w w' :=
  (does_blk (n := 0) (m := 1) (l := [⟨0, 0, 0, none, 0, 0⟩]) (show 0 ≤ 1000 by decide) devs_nil (show (1 : Nat) ≤ 1000 by decide) rfl (Blk.new w _ 45) (fun z hz => by
    obtain rfl : z = ⟨0, 0, 0, none, 0, 0⟩ := by simpa using hz
    exact LvAt.zero rfl)).mono fun e w' h => ⟨h.1, Upd.call h.2 (Upd.refl _ _).alloc fun _ _ h => h⟩
theorem make_devs16 (w : World) : (Instr.makeSlice 33 (.int .i64 16) (.int .i64 16)).run Try.prog w = .ok (.slice (some ⟨w.heap.size, 0, none⟩) 16 16) (w.alloc (.cells (dvL (List.replicate 16 ⟨0, 0, 0, 0, 0⟩)).toArray 31)) := by
  obtain ⟨i, hi, hz0, hz1, hz2⟩ := info_parts (show (Try.prog.info? 31).map (fun i => (i.zero, i.size, i.bytes)) = some (some (.agg #[.int .i64 0, .int .u32 0, .int .i64 0, .int .i64 0, .int .i64 0]), 5, 40) by kernel_rfl)
  have hr := run_make (P := Try.prog) w 33 31 i _ Try.underlying33 hi hz0 .i64 .i64 16 16 (by omega) (Int.le_refl _) (by rw [hz2]; omega) (by omega)
  rw [hz1] at hr
  rw [hr]
  have e : madeCells (Value.agg #[.int .i64 0, .int .u32 0, .int .i64 0, .int .i64 0, .int .i64 0]).cells ((16 : Int).toNat * 5) = (dvL (List.replicate 16 ⟨0, 0, 0, 0, 0⟩)).toArray := by kernel_rfl
  rw [e]
  rfl
theorem make_devs17 (w : World) : (Instr.makeSlice 33 (.int .i64 17) (.int .i64 17)).run Try.prog w = .ok (.slice (some ⟨w.heap.size, 0, none⟩) 17 17) (w.alloc (.cells (dvL (List.replicate 17 ⟨0, 0, 0, 0, 0⟩)).toArray 31)) := by
  obtain ⟨i, hi, hz0, hz1, hz2⟩ := info_parts (show (Try.prog.info? 31).map (fun i => (i.zero, i.size, i.bytes)) = some (some (.agg #[.int .i64 0, .int .u32 0, .int .i64 0, .int .i64 0, .int .i64 0]), 5, 40) by kernel_rfl)
  have hr := run_make (P := Try.prog) w 33 31 i _ Try.underlying33 hi hz0 .i64 .i64 17 17 (by omega) (Int.le_refl _) (by rw [hz2]; omega) (by omega)
  rw [hz1] at hr
  rw [hr]
  have e : madeCells (Value.agg #[.int .i64 0, .int .u32 0, .int .i64 0, .int .i64 0, .int .i64 0]).cells ((17 : Int).toNat * 5) = (dvL (List.replicate 17 ⟨0, 0, 0, 0, 0⟩)).toArray := by kernel_rfl
  rw [e]
  rfl
end Go.Proofs.Ytkhhmkcpbefadaa
