/- The document's ports, and the program's Copy. Conditions: the blocks are known whole. -/
import Derived.Test.YtmblplhehbdocaaPortAny
import Derived.Test.YtmblplhehbdocaaPortAwake
namespace Go.Proofs.Ytmblplhehbdocaa
open Go.RowKit

structure RS where
  n : Nat → Nat
  aw : Nat → Bool
def RS.enc (r : RS) : Array Value := ([0, 1, 2, 3, 4, 5, 6, 7].flatMap (fun k => [Value.int .i64 (r.n k), Value.bool (r.aw k)])).toArray
def RS.fresh : RS := ⟨fun _ => 0, fun _ => false⟩
def RS.set (r : RS) (k n : Nat) (a : Bool) : RS := ⟨fun j => if j = k then n else r.n j, fun j => if j = k then a else r.aw j⟩
def RBlk (w : World) (b : Nat) (r : RS) : Prop := Blk w b r.enc 111
theorem RBlk.blk {w : World} {b : Nat} {r : RS} (h : RBlk w b r) : Blk w b r.enc 111 := h
theorem RBlk.upd {S : Nat → Prop} {w w' : World} {b : Nat} {r : RS} (u : Upd S w w') (h : RBlk w b r) (hs : ¬ S b) : RBlk w' b r := Blk.upd u h hs
theorem RS.enc_cell (r : RS) (k : Nat) (hk : k < 8) : r.enc[k * 2]? = some (.int .i64 (r.n k)) ∧ r.enc[k * 2 + 1]? = some (.bool (r.aw k)) := by
  rcases lt8 hk with rfl | rfl | rfl | rfl | rfl | rfl | rfl | rfl
  all_goals exact ⟨rfl, rfl⟩
theorem RS.set_cell (r : RS) (k : Nat) (hk : k < 8) (n : Nat) (a : Bool) : (r.enc.setIfInBounds (k * 2) (.int .i64 n)).setIfInBounds (k * 2 + 1) (.bool a) = (r.set k n a).enc := by
  rcases lt8 hk with rfl | rfl | rfl | rfl | rfl | rfl | rfl | rfl
  all_goals kernel_rfl
theorem RS.set_away (r : RS) (k : Nat) (hk : k < 8) (a : Bool) : r.enc.setIfInBounds (k * 2 + 1) (.bool a) = (r.set k (r.n k) a).enc := by
  rcases lt8 hk with rfl | rfl | rfl | rfl | rfl | rfl | rfl | rfl
  all_goals kernel_rfl
theorem RS.set_same (r : RS) (k n : Nat) (a : Bool) (h1 : r.n k = n) (h2 : r.aw k = a) : r.set k n a = r := by
  subst h1 h2
  unfold RS.set
  congr
  · funext j; split <;> simp_all
  · funext j; split <;> simp_all
/-- The program's ports that are the document's. -/
def RS.qs (r : RS) : QS := ⟨fun k => if r.n k = 0 then 0 else if r.aw k then 2 else 1, fun k => if r.n k = 0 then AK.no else AK.of (r.n k)⟩
structure RS.Ok (r : RS) : Prop where
  aw : ∀ k, r.aw k = true → r.n k ≠ 0
  le : ∀ k, r.n k ≤ 301
theorem RS.Ok.fresh : RS.fresh.Ok := ⟨fun _ h => (by cases h), fun _ => Nat.zero_le _⟩
theorem RS.Ok.set {r : RS} (h : r.Ok) (k n : Nat) (a : Bool) (hn : n ≤ 301) (ha : a = true → n ≠ 0) : (r.set k n a).Ok := by
  refine ⟨fun j => ?_, fun j => ?_⟩
  · show (if j = k then a else r.aw j) = true → (if j = k then n else r.n j) ≠ 0
    split
    · exact ha
    · exact h.aw j
  · show (if j = k then n else r.n j) ≤ 301
    split
    · exact hn
    · exact h.le j
theorem RS.qs_fresh : RS.fresh.qs = QS.fresh := rfl
theorem RS.qs_put (r : RS) (k n : Nat) (hn : n ≠ 0) : (r.set k n false).qs = r.qs.set k 1 (AK.of n) := by
  unfold RS.qs RS.set QS.set
  congr
  · funext j; dsimp only; split <;> simp_all
  · funext j; dsimp only; split <;> simp_all
theorem RS.qs_away (r : RS) (k : Nat) (hn : r.n k ≠ 0) : (r.set k (r.n k) true).qs = r.qs.turn k 2 := by
  unfold RS.qs RS.set QS.turn
  congr
  · funext j; dsimp only; split <;> simp_all
  · funext j
    dsimp only
    by_cases h : j = k
    · subst h; simp only [if_true]
    · simp only [if_neg h]
theorem RS.qs_back (r : RS) (k : Nat) : (r.set k 0 false).qs = r.qs.set k 0 AK.no := by
  unfold RS.qs RS.set QS.set
  congr
  · funext j; dsimp only; split <;> simp_all
  · funext j; dsimp only; split <;> simp_all

theorem is_bad (k : Int) (h : badW k) (w : World) : Calls Try.prog 89 #[.int .i64 k] w fun e w' => e = .returned (.bool false) ∧ w = w' := by
  rcases h with h | h
  · have h1 : ¬ (0 : Int) ≤ k := by omega
    go_enter Try.func89, Try.ntmps89
    go_wp2
    go_ret
    exact ⟨rfl, rfl⟩
  · have h1 : (0 : Int) ≤ k := by omega
    have h2 : ¬ k < 8 := by omega
    go_enter Try.func89, Try.ntmps89
    go_wp2
    go_ret
    exact ⟨rfl, rfl⟩
theorem is_good (k : Nat) (hk : k < 8) (w : World) : Calls Try.prog 89 #[.int .i64 k] w fun e w' => e = .returned (.bool true) ∧ w = w' := by
  have h1 : (0 : Int) ≤ k := by omega
  have h2 : (k : Int) < 8 := by omega
  go_enter Try.func89, Try.ntmps89
  go_wp2
  go_ret
  exact ⟨rfl, rfl⟩

def RS.put (r : RS) (k : Int) (n : Nat) : RS := if badW k then r else if r.n k.toNat = 0 then r.set k.toNat n false else r
def RS.takeN (r : RS) (k : Int) : Nat := if badW k then 0 else if r.aw k.toNat then 0 else r.n k.toNat
def RS.take (r : RS) (k : Int) : RS := if badW k then r else if r.n k.toNat = 0 then r else r.set k.toNat (r.n k.toNat) true
def RS.back (r : RS) (k : Int) : RS := if badW k then r else if r.aw k.toNat then r.set k.toNat 0 false else r

theorem rputp_any (r : RS) (rr : Nat) (k : Int) (n : Nat) (w : World) (hb : RBlk w rr r) :
    Calls Try.prog 56 #[.pointer (some ⟨rr, 0, none⟩), .int .i64 k, .int .i64 n] w fun e w' => e = .returned (.int .i64 (r.qs.putE k)) ∧ RBlk w' rr (r.put k n) ∧ Upd (fun i => i = rr) w w' := by
  unfold QS.putE RS.put
  by_cases h : badW k
  · rw [if_pos h, if_pos h]
    have HB := Lib.hid hb
    have H := Lib.hid h
    clear hb h
    go_enter Try.func56, Try.ntmps56
    go_wp2_with (go_at_call 89; refine (is_bad k H.out _).mono ?_; rintro e w1 ⟨rfl, rfl⟩)
    go_ret
    exact ⟨rfl, HB.out, Upd.refl _ _⟩
  · rw [if_neg h, if_neg h]
    obtain ⟨m, rfl, hm⟩ := good_nat h
    rw [Int.toNat_natCast]
    have HB := Lib.hid hb
    have hlt := hb.blk.lt
    have h8 : (m : Int) < 8 := by omega
    have c0 := hb.blk.cell _ (r.enc_cell m hm).1
    have f0 := hb.blk.frozen (m * 2)
    have f1 := hb.blk.frozen (m * 2 + 1)
    have c1 := hb.blk.cell _ (r.enc_cell m hm).2
    clear hb h
    by_cases h0 : r.n m = 0
    · rw [show r.qs.st m = 0 from if_pos h0, if_pos rfl, if_pos h0]
      rw [h0] at c0
      have H0 := Lib.hid h0
      clear h0
      go_enter Try.func56, Try.ntmps56
      go_wp2_with (go_at_call 89; refine (is_good m hm _).mono ?_; rintro e w1 ⟨rfl, rfl⟩)
      go_ret
      exact ⟨rfl, Blk.eq (Blk.set (Blk.set HB.out.blk)) (r.set_cell m hm n false), by ((with_reducible repeat' first | exact Upd.refl _ _ | apply Upd.drew | apply Upd.drewN | apply Upd.alloc | refine Upd.setCell ?_ ?_) <;> first | (intro _ _ h; exact h) | (intro _ _ h; exact h.elim) | (intro i h1 h2; exfalso; (try simp only at h2); omega) | (left; rfl) | (right; dsimp only; omega) | (right; omega))⟩
    · rw [if_neg h0]
      have h1 : ¬ r.qs.st m = 0 := by
        show ¬ (if r.n m = 0 then (0 : Int) else if r.aw m then 2 else 1) = 0
        rw [if_neg h0]
        split <;> decide
      rw [if_neg h1]
      have h2 : (((r.n m : Nat) : Int) != 0) = true := by simpa using h0
      clear h0 h1
      go_enter Try.func56, Try.ntmps56
      go_wp2_with (go_at_call 89; refine (is_good m hm _).mono ?_; rintro e w1 ⟨rfl, rfl⟩)
      go_ret
      exact ⟨rfl, HB.out, Upd.refl _ _⟩
theorem rtakep_any (r : RS) (ok : r.Ok) (rr : Nat) (k : Int) (w : World) (hb : RBlk w rr r) :
    Calls Try.prog 57 #[.pointer (some ⟨rr, 0, none⟩), .int .i64 k] w fun e w' => e = .returned (.int .i64 (r.takeN k)) ∧ RBlk w' rr (r.take k) ∧ Upd (fun i => i = rr) w w' := by
  unfold RS.takeN RS.take
  by_cases h : badW k
  · rw [if_pos h, if_pos h]
    have HB := Lib.hid hb
    have H := Lib.hid h
    clear hb h
    go_enter Try.func57, Try.ntmps57
    go_wp2_with (go_at_call 89; refine (is_bad k H.out _).mono ?_; rintro e w1 ⟨rfl, rfl⟩)
    go_ret
    exact ⟨rfl, HB.out, Upd.refl _ _⟩
  · rw [if_neg h, if_neg h]
    obtain ⟨m, rfl, hm⟩ := good_nat h
    rw [Int.toNat_natCast]
    have HB := Lib.hid hb
    have hlt := hb.blk.lt
    have h8 : (m : Int) < 8 := by omega
    have c0 := hb.blk.cell _ (r.enc_cell m hm).1
    have f0 := hb.blk.frozen (m * 2)
    have f1 := hb.blk.frozen (m * 2 + 1)
    have c1 := hb.blk.cell _ (r.enc_cell m hm).2
    clear hb h
    by_cases ha : r.aw m = true
    · rw [if_pos ha, if_neg (ok.aw m ha), show r.set m (r.n m) true = r from RS.set_same r m _ _ rfl ha]
      rw [ha] at c1
      go_enter Try.func57, Try.ntmps57
      go_wp2_with (go_at_call 89; refine (is_good m hm _).mono ?_; rintro e w1 ⟨rfl, rfl⟩)
      go_ret
      exact ⟨rfl, HB.out, Upd.refl _ _⟩
    · rw [if_neg ha]
      have hf : r.aw m = false := by simpa using ha
      rw [hf] at c1
      by_cases h0 : r.n m = 0
      · rw [if_pos h0, h0]
        rw [h0] at c0
        have hh := Lib.hid (r.set_same m _ _ rfl hf)
        clear h0 ha hf
        go_enter Try.func57, Try.ntmps57
        go_wp2_with (first | fail | (go_at_call 89; refine (is_good m hm _).mono ?_; rintro e w1 ⟨rfl, rfl⟩))
        go_region
        go_wp2_with fail
        go_ret
        refine ⟨rfl, ?_, by ((with_reducible repeat' first | exact Upd.refl _ _ | apply Upd.drew | apply Upd.drewN | apply Upd.alloc | refine Upd.setCell ?_ ?_) <;> first | (intro _ _ h; exact h) | (intro _ _ h; exact h.elim) | (intro i h1 h2; exfalso; (try simp only at h2); omega) | (left; rfl) | (right; dsimp only; omega) | (right; omega))⟩
        rw [← hh.out]
        exact Blk.eq (Blk.set (Blk.drew HB.out.blk)) (r.set_away m hm false)
      · rw [if_neg h0]
        have h2 : (((r.n m : Nat) : Int) != 0) = true := by simpa using h0
        clear h0 ha hf
        go_enter Try.func57, Try.ntmps57
        go_wp2_with (first | fail | (go_at_call 89; refine (is_good m hm _).mono ?_; rintro e w1 ⟨rfl, rfl⟩))
        go_region
        go_wp2_with fail
        go_ret
        exact ⟨rfl, Blk.eq (Blk.set (Blk.drew HB.out.blk)) (r.set_away m hm true), by ((with_reducible repeat' first | exact Upd.refl _ _ | apply Upd.drew | apply Upd.drewN | apply Upd.alloc | refine Upd.setCell ?_ ?_) <;> first | (intro _ _ h; exact h) | (intro _ _ h; exact h.elim) | (intro i h1 h2; exfalso; (try simp only at h2); omega) | (left; rfl) | (right; dsimp only; omega) | (right; omega))⟩
theorem rbackp_any (r : RS) (ok : r.Ok) (rr : Nat) (k : Int) (w : World) (hb : RBlk w rr r) :
    Calls Try.prog 58 #[.pointer (some ⟨rr, 0, none⟩), .int .i64 k] w fun e w' => e = .returned (.int .i64 (r.qs.backE k)) ∧ RBlk w' rr (r.back k) ∧ Upd (fun i => i = rr) w w' := by
  unfold QS.backE RS.back
  by_cases h : badW k
  · rw [if_pos h, if_pos h]
    have HB := Lib.hid hb
    have H := Lib.hid h
    clear hb h
    go_enter Try.func58, Try.ntmps58
    go_wp2_with (go_at_call 89; refine (is_bad k H.out _).mono ?_; rintro e w1 ⟨rfl, rfl⟩)
    go_ret
    exact ⟨rfl, HB.out, Upd.refl _ _⟩
  · rw [if_neg h, if_neg h]
    obtain ⟨m, rfl, hm⟩ := good_nat h
    rw [Int.toNat_natCast]
    have HB := Lib.hid hb
    have hlt := hb.blk.lt
    have h8 : (m : Int) < 8 := by omega
    have c0 := hb.blk.cell _ (r.enc_cell m hm).1
    have f0 := hb.blk.frozen (m * 2)
    have f1 := hb.blk.frozen (m * 2 + 1)
    have c1 := hb.blk.cell _ (r.enc_cell m hm).2
    clear hb h
    by_cases ha : r.aw m = true
    · rw [if_pos ha]
      have hs : r.qs.st m = 2 := by
        show (if r.n m = 0 then (0 : Int) else if r.aw m then 2 else 1) = 2
        rw [if_neg (ok.aw m ha), if_pos ha]
      rw [hs, if_pos rfl]
      rw [ha] at c1
      go_enter Try.func58, Try.ntmps58
      go_wp2_with (go_at_call 89; refine (is_good m hm _).mono ?_; rintro e w1 ⟨rfl, rfl⟩)
      go_ret
      exact ⟨rfl, Blk.eq (Blk.set (Blk.set HB.out.blk)) (r.set_cell m hm 0 false), by ((with_reducible repeat' first | exact Upd.refl _ _ | apply Upd.drew | apply Upd.drewN | apply Upd.alloc | refine Upd.setCell ?_ ?_) <;> first | (intro _ _ h; exact h) | (intro _ _ h; exact h.elim) | (intro i h1 h2; exfalso; (try simp only at h2); omega) | (left; rfl) | (right; dsimp only; omega) | (right; omega))⟩
    · rw [if_neg ha]
      have hs : ¬ r.qs.st m = 2 := by
        show ¬ (if r.n m = 0 then (0 : Int) else if r.aw m then 2 else 1) = 2
        rw [if_neg ha]
        split <;> decide
      rw [if_neg hs]
      have hf : r.aw m = false := by simpa using ha
      rw [hf] at c1
      clear ha hf hs
      go_enter Try.func58, Try.ntmps58
      go_wp2_with (go_at_call 89; refine (is_good m hm _).mono ?_; rintro e w1 ⟨rfl, rfl⟩)
      go_ret
      exact ⟨rfl, HB.out, Upd.refl _ _⟩
theorem rstate_any (r : RS) (rr : Nat) (k : Int) (w : World) (hb : RBlk w rr r) :
    Calls Try.prog 90 #[.pointer (some ⟨rr, 0, none⟩), .int .i64 k] w fun e w' => e = .returned (.int .i64 (r.qs.stE k)) ∧ w = w' := by
  unfold QS.stE
  by_cases h : badW k
  · rw [if_pos h]
    have H := Lib.hid h
    clear hb h
    go_enter Try.func90, Try.ntmps90
    go_wp2_with (go_at_call 89; refine (is_bad k H.out _).mono ?_; rintro e w1 ⟨rfl, rfl⟩)
    go_ret
    exact ⟨rfl, rfl⟩
  · rw [if_neg h]
    obtain ⟨m, rfl, hm⟩ := good_nat h
    rw [Int.toNat_natCast]
    have h8 : (m : Int) < 8 := by omega
    have c0 := hb.blk.cell _ (r.enc_cell m hm).1
    have c1 := hb.blk.cell _ (r.enc_cell m hm).2
    clear hb h
    show Calls Try.prog 90 _ w fun e w' => e = .returned (.int .i64 (if r.n m = 0 then 0 else if r.aw m then 2 else 1)) ∧ w = w'
    by_cases h0 : r.n m = 0
    · rw [if_pos h0]
      rw [h0] at c0
      clear h0 c1
      go_enter Try.func90, Try.ntmps90
      go_wp2_with (go_at_call 89; refine (is_good m hm _).mono ?_; rintro e w1 ⟨rfl, rfl⟩)
      go_ret
      exact ⟨rfl, rfl⟩
    · rw [if_neg h0]
      have h2 : (((r.n m : Nat) : Int) == 0) = false := by simpa using h0
      clear h0
      cases ha : r.aw m
      · rw [ha] at c1
        clear ha
        rw [if_neg (by decide)]
        go_enter Try.func90, Try.ntmps90
        go_wp2_with (go_at_call 89; refine (is_good m hm _).mono ?_; rintro e w1 ⟨rfl, rfl⟩)
        go_ret
        exact ⟨rfl, rfl⟩
      · rw [ha] at c1
        clear ha
        rw [if_pos rfl]
        go_enter Try.func90, Try.ntmps90
        go_wp2_with (go_at_call 89; refine (is_good m hm _).mono ?_; rintro e w1 ⟨rfl, rfl⟩)
        go_ret
        exact ⟨rfl, rfl⟩

set_option maxRecDepth 100000 in
set_option maxHeartbeats 4000000 in
theorem copy_port (s : QS) (b : Nat) (w : World) (hb : QBlk w b s) :
    Calls Try.prog 59 #[.pointer (some ⟨b, 0, none⟩)] w fun e w' => e = .returned (.pointer (some ⟨w.heap.size, 0, none⟩)) ∧ QBlk w' w.heap.size s ∧ Upd Non w w' := by
  have HB := Lib.hid hb
  clear hb
  go_enter Try.func59, Try.ntmps59
  go_wp2_with (first
    | (go_at_call 71; refine (there_spec s b _ (QBlk.upd (S := Non) (by ((with_reducible repeat' first | exact Upd.refl _ _ | apply Upd.drew | apply Upd.drewN | apply Upd.alloc | refine Upd.setCell ?_ ?_) <;> first | (intro _ _ h; exact h) | (intro _ _ h; exact h.elim) | (intro i h1 h2; exfalso; (try simp only at h2); omega) | (left; rfl) | (right; dsimp only; omega) | (right; omega))) HB.out id)).mono ?_; rintro e w1 ⟨rfl, rfl⟩)
    | (refine wpList_load_row rfl 133 _ rfl b rfl 133 s.enc (0, 0) _ HB.out.blk Try.underlying133 rfl (by kernel_rfl) ?_)
    | (refine wpList_store_row rfl 133 _ _ rfl w.heap.size s.enc rfl rfl 133 Try.zeroCells133 (heap_alloc_new w _) (by kernel_rfl) rfl (by kernel_rfl) ?_; rw [World.setRow_alloc_new]))
  go_ret
  exact ⟨rfl, Blk.newAt rfl, by ((with_reducible repeat' first | exact Upd.refl _ _ | apply Upd.drew | apply Upd.drewN | apply Upd.alloc | refine Upd.setCell ?_ ?_) <;> first | (intro _ _ h; exact h) | (intro _ _ h; exact h.elim) | (intro i h1 h2; exfalso; (try simp only at h2); omega) | (left; rfl) | (right; dsimp only; omega) | (right; omega))⟩
end Go.Proofs.Ytmblplhehbdocaa
