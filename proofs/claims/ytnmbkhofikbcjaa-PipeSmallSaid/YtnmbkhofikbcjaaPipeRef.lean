/- Contracts of the document's pipe. Conditions: its block and its row are known. -/
import Derived.Test.YtnmbkhofikbcjaaPipeWays
import Derived.Deep.AppendLies
import Derived.Deep.RegionLaw
namespace Go.Proofs.Ytnmbkhofikbcjaa
open Go.RowKit

/-- A row's block, and its cells. -/
theorem own_cells {w : World} {base size n : Nat} {e : TypeId} {v : Value} {xs : List Value} (h : w.ownsRow base e size v n xs) {g c : Nat} (hv : v = .slice (some ⟨g, 0, none⟩) n c) :
    ∃ cur : Array Value, Blk w g cur e ∧ ∀ (j : Nat) (u : Value), xs[j]? = some u → cur[j]? = some u := by
  rcases h.2 with ⟨h0, _⟩ | ⟨g', cap, cur, h0, _, hh, _, _, _, ht⟩
  · rw [h0] at hv; cases hv
  · rw [h0] at hv
    injection hv with h1 h2 h3
    injection h1 with h1
    injection h1 with h1
    subst h1
    refine ⟨cur, hh, fun j u hj => ?_⟩
    rw [← ht, List.getElem?_take] at hj
    split at hj
    · simpa using hj
    · cases hj

/-- The document's pipe. -/
structure RP (w : World) (br base lat : Nat) (began did : Bool) (l : List Way) (v : Value) : Prop where
  blk : Blk w br #[.int .i64 lat, .bool began, .bool did, v] 111
  row : w.ownsRow base 62 4 v l.length (wenc l)
  ne : v.ownBlock ≠ some br
theorem RP.upd {w w' : World} {S : Nat → Prop} {br base lat : Nat} {began did : Bool} {l : List Way} {v : Value} (U : Upd S w w') (h : RP w br base lat began did l v) (h1 : ¬ S br) (h2 : ∀ k, v.ownBlock = some k → ¬ S k) :
    RP w' br base lat began did l v := ⟨Blk.upd U h.blk h1, own_upd U h.row h2, h.ne⟩

theorem refNew_spec (l : Nat) (h0 : 0 < l) (hl : l ≤ 16) (w : World) :
    Calls Try.prog 31 #[.int .i64 l] w fun e w' => e = .returned (.tuple #[.pointer (some ⟨w.heap.size, 0, none⟩), .int .i64 0]) ∧ w' = w.alloc (.cells #[.int .i64 l, .bool false, .bool false, .slice none 0 0] 111) := by
  have h1 : ¬ (l : Int) < 1 := by omega
  have h2 : ¬ (16 : Int) < l := by omega
  go_enter Try.func31, Try.ntmps31
  go_wp2
  go_ret2
  exact ⟨rfl, rfl⟩
theorem refNew_bad (l : Int) (h : l < 1 ∨ 16 < l) (w : World) :
    Calls Try.prog 31 #[.int .i64 l] w fun e w' => e = .returned (.tuple #[.pointer none, .int .i64 2]) ∧ w' = w := by
  rcases h with h | h
  · go_enter Try.func31, Try.ntmps31
    go_wp2
    go_ret2
    exact ⟨rfl, rfl⟩
  · have h1 : ¬ l < 1 := by omega
    go_enter Try.func31, Try.ntmps31
    go_wp2
    go_ret2
    exact ⟨rfl, rfl⟩

theorem refIdle_spec (br base lat : Nat) (began did : Bool) (l : List Way) (v : Value) (w : World) (h : RP w br base lat began did l v) :
    Calls Try.prog 56 #[.pointer (some ⟨br, 0, none⟩)] w fun e w' => e = .returned (.int .i64 (headLeft l)) ∧ w = w' := by
  have h3 := h.blk.cell 3 rfl
  cases l with
  | nil =>
    obtain ⟨A, c, rfl⟩ := own_slice h.row
    clear h
    go_enter Try.func56, Try.ntmps56
    go_wp2
    go_ret
    exact ⟨rfl, rfl⟩
  | cons x l =>
    obtain ⟨g, c, rfl, hb, hlt⟩ := own_form h.row (by simp)
    obtain ⟨cur, hB, hc⟩ := own_cells h.row rfl
    have h4 : w.cell? ⟨g, 3, none⟩ = some (.int .i64 x.2) := hB.cell 3 (hc _ _ (wenc_at (i := 0) (x := x) rfl).2.2.2)
    have hl : ((x :: l).length : Int) ≠ 0 := by rw [List.length_cons]; omega
    have hl2 : (0 : Int) < ((x :: l).length : Int) := by rw [List.length_cons]; omega
    have e0 : headLeft (x :: l) = x.2 := rfl
    rw [e0]
    generalize (x :: l).length = n at *
    clear h hB hc
    go_enter Try.func56, Try.ntmps56
    go_wp2
    go_ret
    exact ⟨rfl, rfl⟩

theorem refPut_early (br base lat : Nat) (did : Bool) (l : List Way) (v : Value) (wo va er : Int) (w : World) (h : RP w br base lat false did l v) :
    Calls Try.prog 33 #[.pointer (some ⟨br, 0, none⟩), .int .i64 wo, .agg #[.int .u32 va, .int .i64 er]] w fun e w' => e = .returned (.int .i64 9) ∧ Upd Non w w' := by
  have h1 := h.blk.cell 1 rfl
  have hlt := h.blk.lt
  clear h
  go_enter Try.func33, Try.ntmps33
  go_wp2
  go_ret
  exact ⟨rfl, by ((with_reducible repeat' first | exact Upd.refl _ _ | apply Upd.drew | apply Upd.drewN | apply Upd.alloc | refine Upd.setCell ?_ ?_) <;> first | (intro _ _ h; exact h) | (intro _ _ h; exact h.elim) | (intro i h1 h2; exfalso; (try simp only at h2); omega) | (left; rfl) | (right; dsimp only; omega) | (right; omega))⟩
theorem refPut_full (br base lat : Nat) (l : List Way) (v : Value) (wo va er : Int) (w : World) (h : RP w br base lat true true l v) :
    Calls Try.prog 33 #[.pointer (some ⟨br, 0, none⟩), .int .i64 wo, .agg #[.int .u32 va, .int .i64 er]] w fun e w' => e = .returned (.int .i64 7) ∧ Upd Non w w' := by
  have h1 := h.blk.cell 1 rfl
  have h2 := h.blk.cell 2 rfl
  have hlt := h.blk.lt
  clear h
  go_enter Try.func33, Try.ntmps33
  go_wp2
  go_ret
  exact ⟨rfl, by ((with_reducible repeat' first | exact Upd.refl _ _ | apply Upd.drew | apply Upd.drewN | apply Upd.alloc | refine Upd.setCell ?_ ?_) <;> first | (intro _ _ h; exact h) | (intro _ _ h; exact h.elim) | (intro i h1 h2; exfalso; (try simp only at h2); omega) | (left; rfl) | (right; dsimp only; omega) | (right; omega))⟩

theorem own_alloc {w : World} {base size n : Nat} {e : TypeId} {v : Value} {xs : List Value} (h : w.ownsRow base e size v n xs) (o : Obj) : (w.alloc o).ownsRow base e size v n xs :=
  own_upd (S := Non) ((Upd.refl Non w).alloc) h fun _ _ => id
theorem own_set {w : World} {base size n : Nat} {e : TypeId} {v : Value} {xs : List Value} {p : Addr} {u : Value} (h : w.ownsRow base e size v n xs) (hp : v.ownBlock ≠ some p.block) : (w.setCell p u).ownsRow base e size v n xs :=
  own_upd (S := fun i => i = p.block) ((Upd.refl _ w).setCell (.inl rfl)) h fun _ hk hh => hp (hh ▸ hk)
theorem own_drewN {w : World} {base size n k : Nat} {e : TypeId} {v : Value} {xs : List Value} (h : w.ownsRow base e size v n xs) : (w.drewN k).ownsRow base e size v n xs := h
theorem blk_grown {w w' : World} {b : Nat} {c : Array Value} {t : TypeId} {r : Option Nat} (h : w.grownBy w' r) (hb : Blk w b c t) (hr : r ≠ some b) : Blk w' b c t := by
  unfold Blk; rw [h.block b hb.lt (fun e => hr e.symm)]; exact hb

theorem own_drew {w : World} {base size n : Nat} {e : TypeId} {v : Value} {xs : List Value} (h : w.ownsRow base e size v n xs) : w.drew.ownsRow base e size v n xs := h
/-- What is held over the statement that appends. -/
def HP (w w' : World) (br bx lat : Nat) (v : Value) (va er : Int) : Prop :=
  Blk w' br #[.int .i64 lat, .bool true, .bool true, v] 111 ∧ Blk w' bx #[.int .u32 va, .int .i64 er] 31 ∧ Upd (fun i => i = br ∨ v.ownBlock = some i) w w'
def SP (w w' : World) (br bx lat : Nat) (v : Value) (va er : Int) : Prop :=
  w'.cell? ⟨br, 0, none⟩ = some (.int .i64 lat) ∧ w'.cell? ⟨br, 3, none⟩ = some v ∧ w'.frozen? ⟨br, 3, none⟩ = false ∧ w'.cell? ⟨bx, 0, none⟩ = some (.int .u32 va) ∧ w'.cell? ⟨bx, 1, none⟩ = some (.int .i64 er) ∧ Hid (HP w w' br bx lat v va er)
section
variable {w a b : World} {br bx lat : Nat} {v : Value} {va er : Int}
theorem SP_of (h : HP w a br bx lat v va er) : SP w a br bx lat v va er := ⟨h.1.cell 0 rfl, h.1.cell 3 rfl, h.1.frozen 3, h.2.1.cell 0 rfl, h.2.1.cell 1 rfl, Lib.hid h⟩
theorem SP_drew (h : SP w a br bx lat v va er) : SP w a.drew br bx lat v va er := SP_of ⟨h.2.2.2.2.2.out.1, h.2.2.2.2.2.out.2.1, h.2.2.2.2.2.out.2.2.drew⟩
theorem SP_alloc {o : Obj} (h : SP w a br bx lat v va er) : SP w (a.alloc o) br bx lat v va er := SP_of ⟨h.2.2.2.2.2.out.1.alloc, h.2.2.2.2.2.out.2.1.alloc, h.2.2.2.2.2.out.2.2.alloc⟩
theorem SP_grown (g : a.grownBy b v.ownBlock) (h1 : v.ownBlock ≠ some br) (h2 : v.ownBlock ≠ some bx) (h : SP w a br bx lat v va er) : SP w b br bx lat v va er :=
  SP_of ⟨blk_grown g h.2.2.2.2.2.out.1 h1, blk_grown g h.2.2.2.2.2.out.2.1 h2, Upd.grown g h.2.2.2.2.2.out.2.2 fun _ hr => .inl (.inr hr)⟩
end

set_option maxRecDepth 100000 in
set_option maxHeartbeats 8000000 in
theorem refPut_ok (br base lat : Nat) (l : List Way) (v : Value) (wo va er : Int) (w : World) (h : RP w br base lat true false l v) (hl : l.length ≤ 1000) (hbase : base ≤ w.heap.size) :
    Calls Try.prog 33 #[.pointer (some ⟨br, 0, none⟩), .int .i64 wo, .agg #[.int .u32 va, .int .i64 er]] w fun e w' => e = .returned (.int .i64 0) ∧
      ∃ v', RP w' br base lat true true (l ++ [(⟨true, wo, va, er⟩, lat)]) v' ∧ Upd (fun i => i = br ∨ v.ownBlock = some i) w w' ∧ (v'.ownBlock = v.ownBlock ∨ ∃ k, v'.ownBlock = some k ∧ w.heap.size ≤ k) := by
  have h1 := h.blk.cell 1 rfl
  have h2 := h.blk.cell 2 rfl
  have f2 := h.blk.frozen 2
  have hlt := h.blk.lt
  have H := Lib.hid h
  have hown : ∀ k, v.ownBlock = some k → k < w.heap.size := fun k hk => (own_block h.row k hk).2
  have HO := Lib.hid hown
  obtain ⟨i0, hi0, hz0⟩ := Option.map_eq_some_iff.1 (show (Try.prog.info? 62).map (fun i => (i.zero, i.size, i.bytes)) = some (some (.agg #[.int .i64 0, .int .u32 0, .int .i64 0, .int .i64 0]), 4, 32) by kernel_rfl)
  simp only [Prod.mk.injEq] at hz0
  obtain ⟨hz1, hz2, hz3⟩ := hz0
  have HI := Lib.hid (And.intro hi0 (And.intro hz1 (And.intro hz2 hz3)))
  clear h hown hi0 hz1 hz2 hz3
  go_enter Try.func33, Try.ntmps33
  go_wp2_with fail
  obtain ⟨bx, hbx⟩ : ∃ b, b = w.heap.size := ⟨_, rfl⟩
  rw [← hbx]
  have hbl := H.out.blk
  have hn : v.ownBlock ≠ some br := H.out.ne
  have hB0 : Blk (((w.setCell ⟨br, 2, none⟩ (.bool true)).alloc (.cells #[.int .u32 va, .int .i64 er] 31))) br #[.int .i64 lat, .bool true, .bool true, v] 111 := hbl.set.alloc
  have hX0 : Blk (((w.setCell ⟨br, 2, none⟩ (.bool true)).alloc (.cells #[.int .u32 va, .int .i64 er] 31))) bx #[.int .u32 va, .int .i64 er] 31 := Blk.newAt (by rw [World.size_setCell]; exact hbx)
  have hO0 : (((w.setCell ⟨br, 2, none⟩ (.bool true)).alloc (.cells #[.int .u32 va, .int .i64 er] 31))).ownsRow base 62 4 v l.length (wenc l) := own_alloc (own_set H.out.row hn) _
  have hU0 : Upd (fun i => i = br ∨ v.ownBlock = some i) w (((w.setCell ⟨br, 2, none⟩ (.bool true)).alloc (.cells #[.int .u32 va, .int .i64 er] 31))) := ((Upd.refl _ w).setCell (.inl (.inl rfl))).alloc
  have hnx : v.ownBlock ≠ some bx := fun h => by have := HO.out bx h; omega
  have hS0 : SP w (((w.setCell ⟨br, 2, none⟩ (.bool true)).alloc (.cells #[.int .u32 va, .int .i64 er] 31))) br bx lat v va er := SP_of ⟨hB0, hX0, hU0⟩
  have hz0 : base ≤ (((w.setCell ⟨br, 2, none⟩ (.bool true)).alloc (.cells #[.int .u32 va, .int .i64 er] 31))).heap.size := Nat.le_trans hbase hU0.size
  have hwx : w.heap.size ≤ (((w.setCell ⟨br, 2, none⟩ (.bool true)).alloc (.cells #[.int .u32 va, .int .i64 er] 31))).heap.size := hU0.size
  clear hbl hB0 hX0 hU0 hbx h1 h2 f2
  generalize ((w.setCell ⟨br, 2, none⟩ (.bool true)).alloc (.cells #[.int .u32 va, .int .i64 er] 31)) = w0 at *
  have e0 := hS0.1
  have e3 := hS0.2.1
  have ef := hS0.2.2.1
  have x0 := hS0.2.2.2.1
  have x1 := hS0.2.2.2.2.1
  have hbw0 : br < w0.heap.size := by omega
  have hne0 := World.new_ne w0 _ e0
  have hne3 := World.new_ne w0 _ e3
  have HS := Lib.hid hS0
  have HO0 := Lib.hid hO0
  clear hS0 hO0
  go_region_law ((refine step_append_lies _ (by rfl) _ _ 109 (by rfl) base 62 i0 (.agg #[.int .i64 0, .int .u32 0, .int .i64 0, .int .i64 0]) 4 32 Try.underlying109 HI.out.1 HI.out.2.1 HI.out.2.2.1 HI.out.2.2.2 rfl (by decide) v l.length (wenc l) (by rfl) (by first | exact own_drew (own_alloc HO0.out _) | exact own_alloc (own_drew HO0.out) _ | exact own_alloc HO0.out _) ⟨w0.heap.size, 0, none⟩ 1 1 [.int .i64 wo, .int .u32 va, .int .i64 er, .int .i64 lat] (by rfl) (by rfl) (World.news_of_block (heap_alloc_new _ _)) (by simp [Value.oneCell']) (by decide) (by simp only [maxLen]; omega) (by omega) (by first | exact Nat.le_trans hz0 (Upd.drew (Upd.alloc (Upd.refl Non _))).size | exact Nat.le_trans hz0 (Upd.alloc (Upd.drew (Upd.refl Non _))).size) (w0.heap.size + 1) (by simp) ?_; intro g cap w1 hown hgrow hat hlt1; have hS1 := SP_grown hgrow hn hnx (by first | exact SP_drew (SP_alloc HS.out) | exact SP_alloc (SP_drew HS.out)); have q3 := hS1.2.1; have qf := hS1.2.2.1; have HS1 := Lib.hid hS1; clear hS1))
  all_goals
    go_wp2_with fail
    go_ret
    refine ⟨rfl, _, ⟨HS1.out.2.2.2.2.2.out.1.set, own_set (by rw [wenc_append, List.length_append]; exact hown) ?_, ?_⟩, HS1.out.2.2.2.2.2.out.2.2.setCell (.inl (.inl rfl)), ?_⟩
    · show (some g : Option Nat) ≠ some br
      rcases hat with hat | hat
      · rw [← hat]; exact hn
      · intro h; injection h with h; omega
    · show (some g : Option Nat) ≠ some br
      rcases hat with hat | hat
      · rw [← hat]; exact hn
      · intro h; injection h with h; omega
    · rcases hat with hat | hat
      · exact .inl hat.symm
      · exact .inr ⟨g, rfl, by omega⟩
end Go.Proofs.Ytnmbkhofikbcjaa
