/- Contracts of the ports' functions. Conditions: the ports' block is known whole. -/
import Derived.Test.YtmblplhehbdocaaPortModel
import Derived.Deep.MidRow
namespace Go.Proofs.Ytmblplhehbdocaa
open Go.RowKit

theorem there_spec (s : QS) (b : Nat) (w : World) (hb : QBlk w b s) : Calls Try.prog 71 #[.pointer (some ⟨b, 0, none⟩)] w fun e w' => e = .returned (.bool true) ∧ w = w' := by
  have h4 : w.cell? ⟨b, 160, none⟩ = some (.bool true) := hb.blk.cell 160 (QS.enc_made s)
  clear hb
  go_enter Try.func71, Try.ntmps71
  go_wp2
  go_ret
  exact ⟨rfl, rfl⟩
theorem of_bad (b : Nat) (k : Int) (h : k < 0 ∨ 7 < k) (w : World) : Calls Try.prog 73 #[.pointer (some ⟨b, 0, none⟩), .int .i64 k] w fun e w' => e = .returned (.tuple #[.pointer none, .bool false]) ∧ w = w' := by
  rcases h with h | h
  · go_enter Try.func73, Try.ntmps73
    go_wp2
    go_ret2
    exact ⟨rfl, rfl⟩
  · have h1 : ¬ k < 0 := by omega
    have h2 : 8 ≤ k := by omega
    go_enter Try.func73, Try.ntmps73
    go_wp2
    go_ret2
    exact ⟨rfl, rfl⟩
theorem of_spec (b k : Nat) (hk : k < 8) (w : World) : Calls Try.prog 73 #[.pointer (some ⟨b, 0, none⟩), .int .i64 k] w fun e w' => e = .returned (.tuple #[.pointer (some ⟨b, k * 20, none⟩), .bool true]) ∧ w = w' := by
  have h1 : ¬ (k : Int) < 0 := by omega
  have h2 : ¬ (8 : Int) ≤ k := by omega
  have h3 : (k : Int) < 8 := by omega
  go_enter Try.func73, Try.ntmps73
  go_wp2
  go_ret2
  exact ⟨rfl, rfl⟩
theorem in_bad (b : Nat) (k v : Int) (h : k < 0 ∨ 7 < k) (w : World) : Calls Try.prog 72 #[.pointer (some ⟨b, 0, none⟩), .int .i64 k, .int .i64 v] w fun e w' => e = .returned (.tuple #[.pointer none, .int .i64 2]) ∧ w = w' := by
  have H := Lib.hid h
  clear h
  go_enter Try.func72, Try.ntmps72
  go_wp2_with (go_at_call 73; refine (of_bad b k H.out _).mono ?_; rintro e w1 ⟨rfl, rfl⟩)
  go_ret2
  exact ⟨rfl, rfl⟩
theorem in_not (s : QS) (b k : Nat) (v : Int) (hk : k < 8) (hv : ¬ s.st k = v) (w : World) (hb : QBlk w b s) : Calls Try.prog 72 #[.pointer (some ⟨b, 0, none⟩), .int .i64 k, .int .i64 v] w fun e w' => e = .returned (.tuple #[.pointer none, .int .i64 9]) ∧ w = w' := by
  have c0 := hb.blk.cell _ (QS.enc_st s k hk)
  have hne : (s.st k != v) = true := by simpa using hv
  clear hb
  go_enter Try.func72, Try.ntmps72
  go_wp2_with (go_at_call 73; refine (of_spec b k hk _).mono ?_; rintro e w1 ⟨rfl, rfl⟩)
  go_ret2
  exact ⟨rfl, rfl⟩
theorem in_spec (s : QS) (b k : Nat) (v : Int) (hk : k < 8) (hv : s.st k = v) (w : World) (hb : QBlk w b s) : Calls Try.prog 72 #[.pointer (some ⟨b, 0, none⟩), .int .i64 k, .int .i64 v] w fun e w' => e = .returned (.tuple #[.pointer (some ⟨b, k * 20, none⟩), .int .i64 0]) ∧ w = w' := by
  have c0 := hb.blk.cell _ (QS.enc_st s k hk)
  rw [hv] at c0
  clear hb hv
  go_enter Try.func72, Try.ntmps72
  go_wp2_with (go_at_call 73; refine (of_spec b k hk _).mono ?_; rintro e w1 ⟨rfl, rfl⟩)
  go_ret2
  exact ⟨rfl, rfl⟩
theorem new_spec (w : World) : Calls Try.prog 29 #[] w fun e w' => e = .returned (.pointer (some ⟨w.heap.size, 0, none⟩)) ∧ w' = w.alloc (.cells QS.fresh.enc 133) := by
  go_enter Try.func29, Try.ntmps29
  go_wp2
  go_ret
  exact ⟨rfl, congrArg (fun c => w.alloc (Obj.cells c 133)) (by kernel_rfl)⟩

/-- The ask of a number. -/
def AK.of (n : Nat) : AK := ⟨n % 2 == 1, (n : Int) % 4294967296, n % 3 == 1, n⟩
theorem AK.enc_one (x : AK) : x.enc.all (·.oneCell') = true := by kernel_rfl
theorem ask_int (x p q u : Int) (h1 : x.tmod 2 = p) (h2 : x.tmod 3 = q) (h5 : IntKind.u32.wrap x = u) (w : World) :
    Calls Try.prog 32 #[.int .i64 x] w fun e w' => e = .returned (.agg (AK.enc ⟨p == 1, u, q == 1, x⟩)) ∧ Upd Non w w' := by
  go_enter Try.func32, Try.ntmps32
  go_wp2_with (refine wpList_store_row rfl 55 _ _ rfl w.heap.size (AK.enc ⟨p == 1, u, q == 1, x⟩) rfl rfl 55 AK.no.enc (heap_alloc_new w _) (by kernel_rfl) rfl (AK.enc_one _) ?_; rw [World.setRow_alloc_new])
  exact bodyPost_ret (v := .agg (AK.enc ⟨p == 1, u, q == 1, x⟩)) (results_cell_row Try.results32 _ _ w.heap.size 55 _ (0, 0) _ rfl (heap_alloc_new w _) Try.underlying55 rfl (by kernel_rfl)) rfl ⟨rfl, by ((with_reducible repeat' first | exact Upd.refl _ _ | apply Upd.drew | apply Upd.drewN | apply Upd.alloc | refine Upd.setCell ?_ ?_) <;> first | (intro _ _ h; exact h) | (intro _ _ h; exact h.elim) | (intro i h1 h2; exfalso; (try simp only at h2); omega) | (left; rfl) | (right; dsimp only; omega) | (right; omega))⟩
theorem ask_spec (n : Nat) (w : World) : Calls Try.prog 32 #[.int .i64 n] w fun e w' => e = .returned (.agg (AK.of n).enc) ∧ Upd Non w w' := by
  have e : AK.of n = ⟨((n % 2 : Nat) : Int) == 1, (n : Int) % 4294967296, ((n % 3 : Nat) : Int) == 1, n⟩ := by
    unfold AK.of
    rw [show (n % 2 == 1) = (((n % 2 : Nat) : Int) == 1) by rcases (show n % 2 = 0 ∨ n % 2 = 1 by omega) with h | h <;> rw [h] <;> rfl,
      show (n % 3 == 1) = (((n % 3 : Nat) : Int) == 1) by rcases (show n % 3 = 0 ∨ n % 3 = 1 ∨ n % 3 = 2 by omega) with h | h | h <;> rw [h] <;> rfl]
  rw [e]
  exact ask_int n _ _ _ (by rw [Int.tmod_eq_emod_of_nonneg (by omega)]; rfl) (by rw [Int.tmod_eq_emod_of_nonneg (by omega)]; rfl) rfl w

/-! ### A row in the midst of a block that is known whole -/
def setMany (c : Array Value) : Nat → List Value → Array Value
  | _, [] => c
  | o, v :: r => setMany (c.setIfInBounds o v) (o + 1) r
theorem Blk.setCells {b : Nat} {t : TypeId} : ∀ (vs : List Value) (o : Nat) {w : World} {c : Array Value}, Blk w b c t → Blk (w.setCells b o vs) b (setMany c o vs) t
  | [], _, _, _, h => h
  | _ :: r, o, _, _, h => Blk.setCells r (o + 1) (Blk.set h)
theorem Upd.setCells {S : Nat → Prop} {a : World} {b : Nat} (hb : S b ∨ a.heap.size ≤ b) : ∀ (vs : List Value) (o : Nat) {w : World}, Upd S a w → Upd S a (w.setCells b o vs)
  | [], _, _, h => h
  | _ :: r, o, _, h => Upd.setCells hb r (o + 1) (Upd.setCell h hb)
theorem Blk.there {w : World} {b : Nat} {c : Array Value} {t : TypeId} (h : Blk w b c t) (o n : Nat) (hn : o + n ≤ c.size) : w.there b o n := fun j hj => by
  refine ⟨?_, h.frozen _⟩
  rw [h.cell (o + j) (Array.getElem?_eq_getElem (by omega))]; rfl
theorem QS.enc_size (s : QS) : s.enc.size = 161 := by kernel_rfl
theorem QS.set_many (s : QS) (k : Nat) (hk : k < 8) (v : Int) (x : AK) : setMany s.enc (k * 20) (.int .i64 v :: x.enc.toList) = (s.set k v x).enc := by
  rcases lt8 hk with rfl | rfl | rfl | rfl | rfl | rfl | rfl | rfl
  all_goals kernel_rfl
theorem QBlk.put {W : World} {b : Nat} {s : QS} (h : Blk W b s.enc 133) (k : Nat) (hk : k < 8) (v : Int) (x : AK) {W' : World} (e : W.setCells b (k * 20) (.int .i64 v :: x.enc.toList) = W') : QBlk W' b (s.set k v x) := by
  rw [← e]
  unfold QBlk
  rw [← QS.set_many s k hk v x]
  exact Blk.setCells _ _ h
theorem Upd.put {W W' w : World} {b : Nat} {S : Nat → Prop} {o : Nat} {vs : List Value} (h : Upd S w W) (hb : S b ∨ w.heap.size ≤ b) (e : W.setCells b o vs = W') : Upd S w W' := e ▸ Upd.setCells hb vs o h
theorem QS.ak_cells (s : QS) (k : Nat) (hk : k < 8) : (s.enc.toList.drop (k * 20 + 1)).take 19 = (s.ak k).enc.toList := by
  rcases lt8 hk with rfl | rfl | rfl | rfl | rfl | rfl | rfl | rfl
  all_goals kernel_rfl
theorem QS.range (s : QS) (b k : Nat) (hk : k < 8) {w : World} (hb : QBlk w b s) : w.rangeAt b (k * 20 + 1) (s.ak k).enc.toList := by
  intro j v hj
  refine hb.blk.cell _ ?_
  rw [← QS.ak_cells s k hk, List.getElem?_take] at hj
  split at hj
  · rw [List.getElem?_drop] at hj
    simpa using hj
  · cases hj

theorem put_bad (s : QS) (b : Nat) (k : Int) (a : AK) (h : k < 0 ∨ 7 < k) (w : World) (hb : QBlk w b s) :
    Calls Try.prog 31 #[.pointer (some ⟨b, 0, none⟩), .int .i64 k, .agg a.enc] w fun e w' => e = .returned (.int .i64 2) ∧ Upd Non w w' := by
  have HB := Lib.hid hb
  have H := Lib.hid h
  clear hb h
  unfold AK.enc
  go_enter Try.func31, Try.ntmps31
  go_wp2_with (first | (go_at_call 71; refine (there_spec s b _ (QBlk.upd (S := Non) (by ((with_reducible repeat' first | exact Upd.refl _ _ | apply Upd.drew | apply Upd.drewN | apply Upd.alloc | refine Upd.setCell ?_ ?_) <;> first | (intro _ _ h; exact h) | (intro _ _ h; exact h.elim) | (intro i h1 h2; exfalso; (try simp only at h2); omega) | (left; rfl) | (right; dsimp only; omega) | (right; omega))) HB.out id)).mono ?_; rintro e w1 ⟨rfl, rfl⟩) | (go_at_call 72; refine (in_bad b k 0 H.out _).mono ?_; rintro e w1 ⟨rfl, rfl⟩))
  go_ret
  exact ⟨rfl, by ((with_reducible repeat' first | exact Upd.refl _ _ | apply Upd.drew | apply Upd.drewN | apply Upd.alloc | refine Upd.setCell ?_ ?_) <;> first | (intro _ _ h; exact h) | (intro _ _ h; exact h.elim) | (intro i h1 h2; exfalso; (try simp only at h2); omega) | (left; rfl) | (right; dsimp only; omega) | (right; omega))⟩
theorem put_busy (s : QS) (b k : Nat) (a : AK) (hk : k < 8) (hv : ¬ s.st k = 0) (w : World) (hb : QBlk w b s) :
    Calls Try.prog 31 #[.pointer (some ⟨b, 0, none⟩), .int .i64 k, .agg a.enc] w fun e w' => e = .returned (.int .i64 14) ∧ Upd Non w w' := by
  have HB := Lib.hid hb
  have H := Lib.hid hv
  clear hb hv
  unfold AK.enc
  go_enter Try.func31, Try.ntmps31
  go_wp2_with (first | (go_at_call 71; refine (there_spec s b _ (QBlk.upd (S := Non) (by ((with_reducible repeat' first | exact Upd.refl _ _ | apply Upd.drew | apply Upd.drewN | apply Upd.alloc | refine Upd.setCell ?_ ?_) <;> first | (intro _ _ h; exact h) | (intro _ _ h; exact h.elim) | (intro i h1 h2; exfalso; (try simp only at h2); omega) | (left; rfl) | (right; dsimp only; omega) | (right; omega))) HB.out id)).mono ?_; rintro e w1 ⟨rfl, rfl⟩) | (go_at_call 72; refine (in_not s b k 0 hk H.out _ (QBlk.upd (S := Non) (by ((with_reducible repeat' first | exact Upd.refl _ _ | apply Upd.drew | apply Upd.drewN | apply Upd.alloc | refine Upd.setCell ?_ ?_) <;> first | (intro _ _ h; exact h) | (intro _ _ h; exact h.elim) | (intro i h1 h2; exfalso; (try simp only at h2); omega) | (left; rfl) | (right; dsimp only; omega) | (right; omega))) HB.out id)).mono ?_; rintro e w1 ⟨rfl, rfl⟩))
  go_ret
  exact ⟨rfl, by ((with_reducible repeat' first | exact Upd.refl _ _ | apply Upd.drew | apply Upd.drewN | apply Upd.alloc | refine Upd.setCell ?_ ?_) <;> first | (intro _ _ h; exact h) | (intro _ _ h; exact h.elim) | (intro i h1 h2; exfalso; (try simp only at h2); omega) | (left; rfl) | (right; dsimp only; omega) | (right; omega))⟩
set_option maxRecDepth 100000 in
set_option maxHeartbeats 8000000 in
theorem put_ok (s : QS) (b k : Nat) (a : AK) (hk : k < 8) (hv : s.st k = 0) (w : World) (hb : QBlk w b s) :
    Calls Try.prog 31 #[.pointer (some ⟨b, 0, none⟩), .int .i64 k, .agg a.enc] w fun e w' => e = .returned (.int .i64 0) ∧ QBlk w' b (s.set k 1 a) ∧ Upd (fun i => i = b) w w' := by
  have HB := Lib.hid hb
  have H := Lib.hid hv
  have hbl := hb.blk.lt
  have HT := Lib.hid (Blk.there (w := w.alloc (.cells a.enc 55)) (hb.blk.alloc) (k * 20) 20 (by rw [QS.enc_size]; omega))
  clear hb hv
  unfold AK.enc
  go_enter Try.func31, Try.ntmps31
  go_wp2_with (first | (go_at_call 71; refine (there_spec s b _ (QBlk.upd (S := Non) (by ((with_reducible repeat' first | exact Upd.refl _ _ | apply Upd.drew | apply Upd.drewN | apply Upd.alloc | refine Upd.setCell ?_ ?_) <;> first | (intro _ _ h; exact h) | (intro _ _ h; exact h.elim) | (intro i h1 h2; exfalso; (try simp only at h2); omega) | (left; rfl) | (right; dsimp only; omega) | (right; omega))) HB.out id)).mono ?_; rintro e w1 ⟨rfl, rfl⟩))
  refine (in_spec s b k 0 hk H.out _ (QBlk.upd (S := Non) (by ((with_reducible repeat' first | exact Upd.refl _ _ | apply Upd.drew | apply Upd.drewN | apply Upd.alloc | refine Upd.setCell ?_ ?_) <;> first | (intro _ _ h; exact h) | (intro _ _ h; exact h.elim) | (intro i h1 h2; exfalso; (try simp only at h2); omega) | (left; rfl) | (right; dsimp only; omega) | (right; omega))) HB.out id)).mono ?_
  rintro e w1 ⟨rfl, rfl⟩
  go_wp2_with (first | (refine wpList_load_row rfl 55 _ rfl w.heap.size rfl 55 #[.bool a.c, .int .i64 0, .bool false, .int .u32 a.a, .int .i64 0, .int .u32 0, .bool a.m, .int .i64 0, .int .i64 a.i, .int .i64 0, .int .i64 0, .bool false, .int .i64 0, .int .u32 0, .int .u32 0, .bool false, .bool false, .int .i64 0, .bool false] (0, 0) _ (heap_alloc_new w _) Try.underlying55 rfl (by kernel_rfl) ?_) | (refine wpList_store_mid rfl 128 _ _ rfl b (k * 20) #[.int .i64 1, .bool a.c, .int .i64 0, .bool false, .int .u32 a.a, .int .i64 0, .int .u32 0, .bool a.m, .int .i64 0, .int .i64 a.i, .int .i64 0, .int .i64 0, .bool false, .int .i64 0, .int .u32 0, .int .u32 0, .bool false, .bool false, .int .i64 0, .bool false] rfl rfl HT.out (by kernel_rfl) (by kernel_rfl) ?_; generalize hW9 : World.setCells _ _ _ _ = W9; have HW9 := Lib.hid hW9; clear hW9))
  go_ret
  exact ⟨rfl, QBlk.put (Blk.alloc HB.out.blk) k hk 1 a HW9.out, Upd.put (by ((with_reducible repeat' first | exact Upd.refl _ _ | apply Upd.drew | apply Upd.drewN | apply Upd.alloc | refine Upd.setCell ?_ ?_) <;> first | (intro _ _ h; exact h) | (intro _ _ h; exact h.elim) | (intro i h1 h2; exfalso; (try simp only at h2); omega) | (left; rfl) | (right; dsimp only; omega) | (right; omega))) (.inl rfl) HW9.out⟩
end Go.Proofs.Ytmblplhehbdocaa
