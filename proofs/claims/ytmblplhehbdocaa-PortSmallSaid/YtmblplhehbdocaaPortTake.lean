/- Contracts of the ports' Take, Back, State, Look. Conditions: the ports' block is known whole. -/
import Derived.Test.YtmblplhehbdocaaPortFns
namespace Go.Proofs.Ytmblplhehbdocaa
open Go.RowKit

theorem Blk.setRow {w : World} {b : Nat} {c d : Array Value} {t : TypeId} (h : Blk w b c t) : Blk (w.setRow b d) b d t := setRow_heap w b c d t (0, 0) h
theorem Blk.setRow_ne {w : World} {b g : Nat} {c d : Array Value} {t : TypeId} (h : Blk w b c t) (hg : b ≠ g) : Blk (w.setRow g d) b c t := by
  unfold Blk; rw [setRow_other w g b d hg]; exact h
theorem Upd.setRow {S : Nat → Prop} {a w : World} {g : Nat} {d : Array Value} (h : Upd S a w) (hg : S g ∨ a.heap.size ≤ g) : Upd S a (w.setRow g d) :=
  ⟨h.os, h.tape, h.output, by rw [setRow_size]; exact h.size, fun i hi hs => by
    have hne : i ≠ g := by
      rintro rfl
      rcases hg with hg | hg
      · exact hs hg
      · omega
    rw [setRow_other w g i d hne]; exact h.block i hi hs⟩
theorem results_two {P : Program} {fn : Func} {p q : Tmp} {ty : TypeId} (h : fn.results = #[.cell p ty, .tmp q]) (tmps : Array Value) (w : World) (g : Nat) (t : TypeId) (cs : Array Value) (fr : Nat × Nat) (d : TypeDesc) (v : Value)
    (hp : tmps.getD p undef = .pointer (some ⟨g, 0, none⟩)) (hq : tmps.getD q undef = v) (hg : w.heap[g]? = some (.cells cs t fr))
    (hu : P.underlying ty = some d) (hd : (match d with | .struct _ | .array _ _ => true | _ => false) = true) (hi : (P.info? ty).map (·.size) = some cs.size) :
    (results fn tmps).run P w = .ok (.tuple #[.agg cs, v]) w := by
  have hp' : tmps[p]?.getD undef = .pointer (some ⟨g, 0, none⟩) := by simpa using hp
  have hq' : tmps[q]?.getD undef = v := by simpa using hq
  simp [results, h, hp', hq', asAddr, run_loadVar_row w g t ty cs fr d hg hu hd hi]

set_option maxRecDepth 100000 in
set_option maxHeartbeats 4000000 in
theorem take_bad (s : QS) (b : Nat) (k : Int) (h : k < 0 ∨ 7 < k) (w : World) (hb : QBlk w b s) :
    Calls Try.prog 30 #[.pointer (some ⟨b, 0, none⟩), .int .i64 k] w fun e w' => e = .returned (.tuple #[.agg AK.no.enc, .bool false]) ∧ Upd Non w w' := by
  have HB := Lib.hid hb
  have H := Lib.hid h
  clear hb h
  go_enter Try.func30, Try.ntmps30
  go_wp2_with (first | (go_at_call 71; refine (there_spec s b _ (QBlk.upd (S := Non) (by ((with_reducible repeat' first | exact Upd.refl _ _ | apply Upd.drew | apply Upd.drewN | apply Upd.alloc | refine Upd.setCell ?_ ?_) <;> first | (intro _ _ h; exact h) | (intro _ _ h; exact h.elim) | (intro i h1 h2; exfalso; (try simp only at h2); omega) | (left; rfl) | (right; dsimp only; omega) | (right; omega))) HB.out id)).mono ?_; rintro e w1 ⟨rfl, rfl⟩) | (go_at_call 72; refine (in_bad b k 1 H.out _).mono ?_; rintro e w1 ⟨rfl, rfl⟩) | (refine wpList_store_row rfl 55 _ _ rfl w.heap.size #[.bool false, .int .i64 0, .bool false, .int .u32 0, .int .i64 0, .int .u32 0, .bool false, .int .i64 0, .int .i64 0, .int .i64 0, .int .i64 0, .bool false, .int .i64 0, .int .u32 0, .int .u32 0, .bool false, .bool false, .int .i64 0, .bool false] rfl rfl 55 #[.bool false, .int .i64 0, .bool false, .int .u32 0, .int .i64 0, .int .u32 0, .bool false, .int .i64 0, .int .i64 0, .int .i64 0, .int .i64 0, .bool false, .int .i64 0, .int .u32 0, .int .u32 0, .bool false, .bool false, .int .i64 0, .bool false] (heap_alloc_new w _) (by kernel_rfl) rfl (by kernel_rfl) ?_; rw [World.setRow_alloc_new]))
  exact bodyPost_ret (results_two Try.results30 _ _ w.heap.size 55 #[.bool false, .int .i64 0, .bool false, .int .u32 0, .int .i64 0, .int .u32 0, .bool false, .int .i64 0, .int .i64 0, .int .i64 0, .int .i64 0, .bool false, .int .i64 0, .int .u32 0, .int .u32 0, .bool false, .bool false, .int .i64 0, .bool false] (0, 0) _ (.bool false) rfl rfl (heap_alloc_new w _) Try.underlying55 rfl (by kernel_rfl)) rfl ⟨rfl, by ((with_reducible repeat' first | exact Upd.refl _ _ | apply Upd.drew | apply Upd.drewN | apply Upd.alloc | refine Upd.setCell ?_ ?_) <;> first | (intro _ _ h; exact h) | (intro _ _ h; exact h.elim) | (intro i h1 h2; exfalso; (try simp only at h2); omega) | (left; rfl) | (right; dsimp only; omega) | (right; omega))⟩
set_option maxRecDepth 100000 in
set_option maxHeartbeats 4000000 in
theorem take_no (s : QS) (b k : Nat) (hk : k < 8) (hv : ¬ s.st k = 1) (w : World) (hb : QBlk w b s) :
    Calls Try.prog 30 #[.pointer (some ⟨b, 0, none⟩), .int .i64 k] w fun e w' => e = .returned (.tuple #[.agg AK.no.enc, .bool false]) ∧ Upd Non w w' := by
  have HB := Lib.hid hb
  have H := Lib.hid hv
  clear hb hv
  go_enter Try.func30, Try.ntmps30
  go_wp2_with (first | (go_at_call 71; refine (there_spec s b _ (QBlk.upd (S := Non) (by ((with_reducible repeat' first | exact Upd.refl _ _ | apply Upd.drew | apply Upd.drewN | apply Upd.alloc | refine Upd.setCell ?_ ?_) <;> first | (intro _ _ h; exact h) | (intro _ _ h; exact h.elim) | (intro i h1 h2; exfalso; (try simp only at h2); omega) | (left; rfl) | (right; dsimp only; omega) | (right; omega))) HB.out id)).mono ?_; rintro e w1 ⟨rfl, rfl⟩) | (go_at_call 72; refine (in_not s b k 1 hk H.out _ (QBlk.upd (S := Non) (by ((with_reducible repeat' first | exact Upd.refl _ _ | apply Upd.drew | apply Upd.drewN | apply Upd.alloc | refine Upd.setCell ?_ ?_) <;> first | (intro _ _ h; exact h) | (intro _ _ h; exact h.elim) | (intro i h1 h2; exfalso; (try simp only at h2); omega) | (left; rfl) | (right; dsimp only; omega) | (right; omega))) HB.out id)).mono ?_; rintro e w1 ⟨rfl, rfl⟩) | (refine wpList_store_row rfl 55 _ _ rfl w.heap.size #[.bool false, .int .i64 0, .bool false, .int .u32 0, .int .i64 0, .int .u32 0, .bool false, .int .i64 0, .int .i64 0, .int .i64 0, .int .i64 0, .bool false, .int .i64 0, .int .u32 0, .int .u32 0, .bool false, .bool false, .int .i64 0, .bool false] rfl rfl 55 #[.bool false, .int .i64 0, .bool false, .int .u32 0, .int .i64 0, .int .u32 0, .bool false, .int .i64 0, .int .i64 0, .int .i64 0, .int .i64 0, .bool false, .int .i64 0, .int .u32 0, .int .u32 0, .bool false, .bool false, .int .i64 0, .bool false] (heap_alloc_new w _) (by kernel_rfl) rfl (by kernel_rfl) ?_; rw [World.setRow_alloc_new]))
  exact bodyPost_ret (results_two Try.results30 _ _ w.heap.size 55 #[.bool false, .int .i64 0, .bool false, .int .u32 0, .int .i64 0, .int .u32 0, .bool false, .int .i64 0, .int .i64 0, .int .i64 0, .int .i64 0, .bool false, .int .i64 0, .int .u32 0, .int .u32 0, .bool false, .bool false, .int .i64 0, .bool false] (0, 0) _ (.bool false) rfl rfl (heap_alloc_new w _) Try.underlying55 rfl (by kernel_rfl)) rfl ⟨rfl, by ((with_reducible repeat' first | exact Upd.refl _ _ | apply Upd.drew | apply Upd.drewN | apply Upd.alloc | refine Upd.setCell ?_ ?_) <;> first | (intro _ _ h; exact h) | (intro _ _ h; exact h.elim) | (intro i h1 h2; exfalso; (try simp only at h2); omega) | (left; rfl) | (right; dsimp only; omega) | (right; omega))⟩
set_option maxRecDepth 100000 in
set_option maxHeartbeats 4000000 in
theorem take_ok (s : QS) (b k : Nat) (hk : k < 8) (hv : s.st k = 1) (w : World) (hb : QBlk w b s) :
    Calls Try.prog 30 #[.pointer (some ⟨b, 0, none⟩), .int .i64 k] w fun e w' => e = .returned (.tuple #[.agg (s.ak k).enc, .bool true]) ∧ QBlk w' b (s.turn k 2) ∧ Upd (fun i => i = b) w w' := by
  have HB := Lib.hid hb
  have H := Lib.hid hv
  have hbl := hb.blk.lt
  have c0 := hb.blk.cell _ (QS.enc_st s k hk)
  have f0 := hb.blk.frozen (k * 20)
  have hT : QBlk (w.setCell ⟨b, k * 20, none⟩ (.int .i64 2)) b (s.turn k 2) := by
    unfold QBlk; rw [← QS.turn_cell s k hk 2]; exact Blk.set hb.blk
  have HT := Lib.hid hT
  have HRG := Lib.hid (QS.range (s.turn k 2) b k hk hT)
  have hz : (w.setCell ⟨b, k * 20, none⟩ (.int .i64 2)).heap.size = w.heap.size := World.size_setCell ..
  have HZ := Lib.hid hz
  clear hb hv hT hz
  go_enter Try.func30, Try.ntmps30
  go_wp2_with (first | (go_at_call 71; refine (there_spec s b _ (QBlk.upd (S := Non) (by ((with_reducible repeat' first | exact Upd.refl _ _ | apply Upd.drew | apply Upd.drewN | apply Upd.alloc | refine Upd.setCell ?_ ?_) <;> first | (intro _ _ h; exact h) | (intro _ _ h; exact h.elim) | (intro i h1 h2; exfalso; (try simp only at h2); omega) | (left; rfl) | (right; dsimp only; omega) | (right; omega))) HB.out id)).mono ?_; rintro e w1 ⟨rfl, rfl⟩) | (go_at_call 72; refine (in_spec s b k 1 hk H.out _ (QBlk.upd (S := Non) (by ((with_reducible repeat' first | exact Upd.refl _ _ | apply Upd.drew | apply Upd.drewN | apply Upd.alloc | refine Upd.setCell ?_ ?_) <;> first | (intro _ _ h; exact h) | (intro _ _ h; exact h.elim) | (intro i h1 h2; exfalso; (try simp only at h2); omega) | (left; rfl) | (right; dsimp only; omega) | (right; omega))) HB.out id)).mono ?_; rintro e w1 ⟨rfl, rfl⟩) | (refine wpList_load_mid rfl 55 _ rfl b (k * 20 + 1) rfl (s.ak k).enc.toList _ (World.rangeAt_alloc HRG.out _) Try.underlying55 rfl (by kernel_rfl) ?_) | (refine wpList_store_row rfl 55 _ _ rfl w.heap.size (s.ak k).enc rfl rfl 55 #[.bool false, .int .i64 0, .bool false, .int .u32 0, .int .i64 0, .int .u32 0, .bool false, .int .i64 0, .int .i64 0, .int .i64 0, .int .i64 0, .bool false, .int .i64 0, .int .u32 0, .int .u32 0, .bool false, .bool false, .int .i64 0, .bool false] (Blk.newAt HZ.out.symm) (by kernel_rfl) rfl (AK.enc_one _) ?_; generalize hW9 : World.setRow _ _ _ = W9; have HW9 := Lib.hid hW9; clear hW9))
  have hX : Blk W9 w.heap.size (s.ak k).enc 55 := by rw [← HW9.out]; exact Blk.setRow (Blk.newAt HZ.out.symm)
  exact bodyPost_ret (results_two Try.results30 _ _ w.heap.size 55 (s.ak k).enc (0, 0) _ (.bool true) rfl rfl hX Try.underlying55 rfl (by kernel_rfl)) rfl
    ⟨rfl, by rw [← HW9.out]; exact Blk.setRow_ne (Blk.alloc HT.out) (by omega), by rw [← HW9.out]; exact Upd.setRow (by ((with_reducible repeat' first | exact Upd.refl _ _ | apply Upd.drew | apply Upd.drewN | apply Upd.alloc | refine Upd.setCell ?_ ?_) <;> first | (intro _ _ h; exact h) | (intro _ _ h; exact h.elim) | (intro i h1 h2; exfalso; (try simp only at h2); omega) | (left; rfl) | (right; dsimp only; omega) | (right; omega))) (.inr (Nat.le_refl _))⟩

set_option maxRecDepth 100000 in
set_option maxHeartbeats 4000000 in
theorem back_bad (s : QS) (b : Nat) (k : Int) (h : k < 0 ∨ 7 < k) (w : World) (hb : QBlk w b s) :
    Calls Try.prog 33 #[.pointer (some ⟨b, 0, none⟩), .int .i64 k] w fun e w' => e = .returned (.int .i64 2) ∧ Upd Non w w' := by
  have HB := Lib.hid hb
  have H := Lib.hid h
  clear hb h
  go_enter Try.func33, Try.ntmps33
  go_wp2_with (first | (go_at_call 71; refine (there_spec s b _ (QBlk.upd (S := Non) (by ((with_reducible repeat' first | exact Upd.refl _ _ | apply Upd.drew | apply Upd.drewN | apply Upd.alloc | refine Upd.setCell ?_ ?_) <;> first | (intro _ _ h; exact h) | (intro _ _ h; exact h.elim) | (intro i h1 h2; exfalso; (try simp only at h2); omega) | (left; rfl) | (right; dsimp only; omega) | (right; omega))) HB.out id)).mono ?_; rintro e w1 ⟨rfl, rfl⟩) | (go_at_call 72; refine (in_bad b k 2 H.out _).mono ?_; rintro e w1 ⟨rfl, rfl⟩))
  go_ret
  exact ⟨rfl, by ((with_reducible repeat' first | exact Upd.refl _ _ | apply Upd.drew | apply Upd.drewN | apply Upd.alloc | refine Upd.setCell ?_ ?_) <;> first | (intro _ _ h; exact h) | (intro _ _ h; exact h.elim) | (intro i h1 h2; exfalso; (try simp only at h2); omega) | (left; rfl) | (right; dsimp only; omega) | (right; omega))⟩
set_option maxRecDepth 100000 in
theorem back_no (s : QS) (b k : Nat) (hk : k < 8) (hv : ¬ s.st k = 2) (w : World) (hb : QBlk w b s) :
    Calls Try.prog 33 #[.pointer (some ⟨b, 0, none⟩), .int .i64 k] w fun e w' => e = .returned (.int .i64 9) ∧ Upd Non w w' := by
  have HB := Lib.hid hb
  have H := Lib.hid hv
  clear hb hv
  go_enter Try.func33, Try.ntmps33
  go_wp2_with (first | (go_at_call 71; refine (there_spec s b _ (QBlk.upd (S := Non) (by ((with_reducible repeat' first | exact Upd.refl _ _ | apply Upd.drew | apply Upd.drewN | apply Upd.alloc | refine Upd.setCell ?_ ?_) <;> first | (intro _ _ h; exact h) | (intro _ _ h; exact h.elim) | (intro i h1 h2; exfalso; (try simp only at h2); omega) | (left; rfl) | (right; dsimp only; omega) | (right; omega))) HB.out id)).mono ?_; rintro e w1 ⟨rfl, rfl⟩) | (go_at_call 72; refine (in_not s b k 2 hk H.out _ (QBlk.upd (S := Non) (by ((with_reducible repeat' first | exact Upd.refl _ _ | apply Upd.drew | apply Upd.drewN | apply Upd.alloc | refine Upd.setCell ?_ ?_) <;> first | (intro _ _ h; exact h) | (intro _ _ h; exact h.elim) | (intro i h1 h2; exfalso; (try simp only at h2); omega) | (left; rfl) | (right; dsimp only; omega) | (right; omega))) HB.out id)).mono ?_; rintro e w1 ⟨rfl, rfl⟩))
  go_ret
  exact ⟨rfl, by ((with_reducible repeat' first | exact Upd.refl _ _ | apply Upd.drew | apply Upd.drewN | apply Upd.alloc | refine Upd.setCell ?_ ?_) <;> first | (intro _ _ h; exact h) | (intro _ _ h; exact h.elim) | (intro i h1 h2; exfalso; (try simp only at h2); omega) | (left; rfl) | (right; dsimp only; omega) | (right; omega))⟩
set_option maxRecDepth 100000 in
set_option maxHeartbeats 4000000 in
theorem back_ok (s : QS) (b k : Nat) (hk : k < 8) (hv : s.st k = 2) (w : World) (hb : QBlk w b s) :
    Calls Try.prog 33 #[.pointer (some ⟨b, 0, none⟩), .int .i64 k] w fun e w' => e = .returned (.int .i64 0) ∧ QBlk w' b (s.set k 0 AK.no) ∧ Upd (fun i => i = b) w w' := by
  have HB := Lib.hid hb
  have H := Lib.hid hv
  have HT := Lib.hid (Blk.there hb.blk (k * 20) 20 (by rw [QS.enc_size]; omega))
  clear hb hv
  go_enter Try.func33, Try.ntmps33
  go_wp2_with (first | (go_at_call 71; refine (there_spec s b _ (QBlk.upd (S := Non) (by ((with_reducible repeat' first | exact Upd.refl _ _ | apply Upd.drew | apply Upd.drewN | apply Upd.alloc | refine Upd.setCell ?_ ?_) <;> first | (intro _ _ h; exact h) | (intro _ _ h; exact h.elim) | (intro i h1 h2; exfalso; (try simp only at h2); omega) | (left; rfl) | (right; dsimp only; omega) | (right; omega))) HB.out id)).mono ?_; rintro e w1 ⟨rfl, rfl⟩) | (go_at_call 72; refine (in_spec s b k 2 hk H.out _ (QBlk.upd (S := Non) (by ((with_reducible repeat' first | exact Upd.refl _ _ | apply Upd.drew | apply Upd.drewN | apply Upd.alloc | refine Upd.setCell ?_ ?_) <;> first | (intro _ _ h; exact h) | (intro _ _ h; exact h.elim) | (intro i h1 h2; exfalso; (try simp only at h2); omega) | (left; rfl) | (right; dsimp only; omega) | (right; omega))) HB.out id)).mono ?_; rintro e w1 ⟨rfl, rfl⟩) | (refine wpList_store_mid rfl 128 _ _ rfl b (k * 20) #[.int .i64 0, .bool false, .int .i64 0, .bool false, .int .u32 0, .int .i64 0, .int .u32 0, .bool false, .int .i64 0, .int .i64 0, .int .i64 0, .int .i64 0, .bool false, .int .i64 0, .int .u32 0, .int .u32 0, .bool false, .bool false, .int .i64 0, .bool false] rfl rfl HT.out (by kernel_rfl) (by kernel_rfl) ?_; generalize hW9 : World.setCells _ _ _ _ = W9; have HW9 := Lib.hid hW9; clear hW9))
  go_ret
  exact ⟨rfl, QBlk.put HB.out.blk k hk 0 AK.no HW9.out, Upd.put (by ((with_reducible repeat' first | exact Upd.refl _ _ | apply Upd.drew | apply Upd.drewN | apply Upd.alloc | refine Upd.setCell ?_ ?_) <;> first | (intro _ _ h; exact h) | (intro _ _ h; exact h.elim) | (intro i h1 h2; exfalso; (try simp only at h2); omega) | (left; rfl) | (right; dsimp only; omega) | (right; omega))) (.inl rfl) HW9.out⟩

theorem state_bad (s : QS) (b : Nat) (k : Int) (h : k < 0 ∨ 7 < k) (w : World) (hb : QBlk w b s) :
    Calls Try.prog 34 #[.pointer (some ⟨b, 0, none⟩), .int .i64 k] w fun e w' => e = .returned (.int .i64 0) ∧ w = w' := by
  have HB := Lib.hid hb
  have H := Lib.hid h
  clear hb h
  go_enter Try.func34, Try.ntmps34
  go_wp2_with (first | (go_at_call 71; refine (there_spec s b _ HB.out).mono ?_; rintro e w1 ⟨rfl, rfl⟩) | (go_at_call 73; refine (of_bad b k H.out _).mono ?_; rintro e w1 ⟨rfl, rfl⟩))
  go_ret
  exact ⟨rfl, rfl⟩
theorem state_spec (s : QS) (b k : Nat) (hk : k < 8) (w : World) (hb : QBlk w b s) :
    Calls Try.prog 34 #[.pointer (some ⟨b, 0, none⟩), .int .i64 k] w fun e w' => e = .returned (.int .i64 (s.st k)) ∧ w = w' := by
  have HB := Lib.hid hb
  have c0 := hb.blk.cell _ (QS.enc_st s k hk)
  clear hb
  go_enter Try.func34, Try.ntmps34
  go_wp2_with (first | (go_at_call 71; refine (there_spec s b _ HB.out).mono ?_; rintro e w1 ⟨rfl, rfl⟩) | (go_at_call 73; refine (of_spec b k hk _).mono ?_; rintro e w1 ⟨rfl, rfl⟩))
  go_ret
  exact ⟨rfl, rfl⟩
end Go.Proofs.Ytmblplhehbdocaa
