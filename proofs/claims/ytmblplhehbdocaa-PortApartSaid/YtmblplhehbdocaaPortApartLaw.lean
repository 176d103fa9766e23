/- PortApart: the law's walk. Conditions: the argument's cells read as numbers. -/
import Derived.Test.YtmblplhehbdocaaPortAny
import Derived.Test.YtmblplhehbdocaaPortAwake
import Derived.Deep.CutBlock
namespace Go.Proofs.Ytmblplhehbdocaa
open Go.RowKit

/-- Two ports whose place of a world is the same. -/
def Same (s q : QS) (k : Nat) : Prop := s.st k = q.st k ∧ s.ak k = q.ak k
theorem Same.stE {s q : QS} {k : Nat} (h : Same s q k) : q.stE k = s.stE k := by unfold QS.stE; rw [Int.toNat_natCast, h.1]
theorem Same.lookA {s q : QS} {k : Nat} (h : Same s q k) : q.lookA k = s.lookA k := by unfold QS.lookA; rw [h.stE, Int.toNat_natCast, h.2]
theorem Same.lookO {s q : QS} {k : Nat} (h : Same s q k) : q.lookO k = s.lookO k := by unfold QS.lookO; rw [h.stE]
theorem Same.putE {s q : QS} {k : Nat} (h : Same s q k) : q.putE k = s.putE k := by unfold QS.putE; rw [Int.toNat_natCast, h.1]
theorem Same.takeA {s q : QS} {k : Nat} (h : Same s q k) : q.takeA k = s.takeA k := by unfold QS.takeA; rw [Int.toNat_natCast, h.1, h.2]
theorem Same.takeO {s q : QS} {k : Nat} (h : Same s q k) : q.takeO k = s.takeO k := by unfold QS.takeO; rw [Int.toNat_natCast, h.1]
theorem Same.backE {s q : QS} {k : Nat} (h : Same s q k) : q.backE k = s.backE k := by unfold QS.backE; rw [Int.toNat_natCast, h.1]
theorem same_set (s q : QS) (k : Nat) (v : Int) (x : AK) : Same (s.set k v x) (q.set k v x) k := ⟨(if_pos rfl).trans (if_pos rfl).symm, (if_pos rfl).trans (if_pos rfl).symm⟩
theorem Same.put {s q : QS} {k : Nat} (h : Same s q k) (a : AK) : Same (s.putS k a) (q.putS k a) k := by
  unfold QS.putS
  rw [Int.toNat_natCast, ← h.1]
  split
  · exact h
  · split
    · exact same_set s q k 1 a
    · exact h
theorem Same.take {s q : QS} {k : Nat} (h : Same s q k) : Same (s.takeS k) (q.takeS k) k := by
  unfold QS.takeS
  rw [Int.toNat_natCast, ← h.1]
  split
  · exact h
  · split
    · exact ⟨(if_pos rfl).trans (if_pos rfl).symm, h.2⟩
    · exact h
theorem Same.back {s q : QS} {k : Nat} (h : Same s q k) : Same (s.backS k) (q.backS k) k := by
  unfold QS.backS
  rw [Int.toNat_natCast, ← h.1]
  split
  · exact h
  · split
    · exact same_set s q k 0 AK.no
    · exact h
theorem toNat_ne {k : Nat} {m : Int} (h : ¬ badW m) (hm : ¬ m = (k : Int)) : ¬ k = m.toNat := by unfold badW at h; omega
theorem same_other {s q : QS} {k j : Nat} (h : Same s q k) (hk : ¬ k = j) (v : Int) (x : AK) : Same (s.set j v x) q k := ⟨(if_neg hk).trans h.1, (if_neg hk).trans h.2⟩
theorem Same.put_other {s q : QS} {k : Nat} (h : Same s q k) {m : Int} (hm : ¬ m = (k : Int)) (a : AK) : Same (s.putS m a) q k := by
  unfold QS.putS
  split
  · exact h
  · rename_i hb
    split
    · exact same_other h (toNat_ne hb hm) 1 a
    · exact h
theorem Same.take_other {s q : QS} {k : Nat} (h : Same s q k) {m : Int} (hm : ¬ m = (k : Int)) : Same (s.takeS m) q k := by
  unfold QS.takeS
  split
  · exact h
  · rename_i hb
    split
    · exact ⟨(if_neg (toNat_ne hb hm)).trans h.1, h.2⟩
    · exact h
theorem Same.back_other {s q : QS} {k : Nat} (h : Same s q k) {m : Int} (hm : ¬ m = (k : Int)) : Same (s.backS m) q k := by
  unfold QS.backS
  split
  · exact h
  · rename_i hb
    split
    · exact same_other h (toNat_ne hb hm) 0 AK.no
    · exact h

theorem apart_none (A : Option Addr) (n c : Nat) (v : Int) (h : 300 < n ∨ v < 0 ∨ 7 < v) (w : World) :
    Calls Try.prog 9 #[.slice A n c, .int .i64 v] w fun e w' => e = .returned (.bool true) ∧ Upd Non w w' := by
  by_cases h1 : (300 : Int) < n
  · clear h
    go_enter Try.func9, Try.ntmps9
    go_wp2_with (go_at_call 28; refine (awake_spec _).mono ?_; rintro e w1 ⟨rfl, hU1⟩)
    go_ret
    exact ⟨rfl, by ((with_reducible repeat' first | exact Upd.refl _ _ | apply Upd.drew | apply Upd.drewN | apply Upd.alloc | refine Upd.setCell ?_ ?_ | refine Upd.call hU1 ?_ ?_) <;> first | (intro _ _ h; exact h) | (intro _ _ h; exact h.elim) | (intro i h1 h2; exfalso; (try simp only at h2); omega) | (left; rfl) | (right; dsimp only; omega) | (right; omega))⟩
  by_cases h2 : v < 0
  · clear h
    go_enter Try.func9, Try.ntmps9
    go_wp2_with (go_at_call 28; refine (awake_spec _).mono ?_; rintro e w1 ⟨rfl, hU1⟩)
    go_ret
    exact ⟨rfl, by ((with_reducible repeat' first | exact Upd.refl _ _ | apply Upd.drew | apply Upd.drewN | apply Upd.alloc | refine Upd.setCell ?_ ?_ | refine Upd.call hU1 ?_ ?_) <;> first | (intro _ _ h; exact h) | (intro _ _ h; exact h.elim) | (intro i h1 h2; exfalso; (try simp only at h2); omega) | (left; rfl) | (right; dsimp only; omega) | (right; omega))⟩
  have h3 : 7 < v := by omega
  clear h
  go_enter Try.func9, Try.ntmps9
  go_wp2_with (go_at_call 28; refine (awake_spec _).mono ?_; rintro e w1 ⟨rfl, hU1⟩)
  go_ret
  exact ⟨rfl, by ((with_reducible repeat' first | exact Upd.refl _ _ | apply Upd.drew | apply Upd.drewN | apply Upd.alloc | refine Upd.setCell ?_ ?_ | refine Upd.call hU1 ?_ ?_) <;> first | (intro _ _ h; exact h) | (intro _ _ h; exact h.elim) | (intro i h1 h2; exfalso; (try simp only at h2); omega) | (left; rfl) | (right; dsimp only; omega) | (right; omega))⟩

set_option maxRecDepth 100000 in
set_option maxHeartbeats 16000000 in
theorem apart_some (A : Option Addr) (N cc : Nat) (H K : Nat → Int) (k : Nat) (hk : k < 8) (h2 : N ≤ 300) (w : World)
    (hd : 0 < N → ∃ b o, A = some ⟨b, o, none⟩ ∧ ∀ j, j < N → w.cell? ⟨b, o + j * 2, none⟩ = some (.int .i64 (H j)) ∧ w.cell? ⟨b, o + j * 2 + 1, none⟩ = some (.int .i64 (K j))) :
    Calls Try.prog 9 #[.slice A N cc, .int .i64 k] w fun e w' => e = .returned (.bool true) ∧ Upd Non w w' := by
  have k0 : ¬ (300 : Int) < N := by omega
  have k2 : ¬ (k : Int) < 0 := by omega
  have k3 : ¬ (7 : Int) < k := by omega
  have HD := Lib.hid hd
  clear hd
  go_enter Try.func9, Try.ntmps9
  go_wp2_with fail
  refine (awake_spec _).mono ?_
  rintro e w1 ⟨rfl, U1⟩
  have HU1 := Lib.hid U1
  clear U1
  go_wp2_with fail
  refine (new_spec _).mono ?_
  rintro e w2 ⟨rfl, hw2⟩
  obtain ⟨b, hbb⟩ : ∃ b, b = w1.heap.size := ⟨_, rfl⟩
  rw [← hbb]
  have HB2 := Lib.hid (show QBlk w2 b QS.fresh by rw [hw2]; exact Blk.newAt hbb)
  have HU2 := Lib.hid (show Upd Non w w2 by rw [hw2]; exact HU1.out.alloc)
  have hbw : w.heap.size ≤ b := by have := HU1.out.size; omega
  clear hw2 hbb HU1
  go_wp2_with fail
  refine (new_spec _).mono ?_
  rintro e w3 ⟨rfl, hw3⟩
  obtain ⟨c, hcc⟩ : ∃ b, b = w2.heap.size := ⟨_, rfl⟩
  rw [← hcc]
  have HC3 := Lib.hid (show QBlk w3 c QS.fresh by rw [hw3]; exact Blk.newAt hcc)
  have HB3 := Lib.hid (show QBlk w3 b QS.fresh by rw [hw3]; exact Blk.alloc HB2.out)
  have HU3 := Lib.hid (show Upd Non w w3 by rw [hw3]; exact HU2.out.alloc)
  have hcw : w.heap.size ≤ c := by have := HU2.out.size; omega
  have n1 : b ≠ c := by have := HB2.out.blk.lt; omega
  clear hw3 hcc HU2 HB2
  go_wp2_with fail
  go_loopw [7] (fun i wr => ∃ (t : Nat) (s q : QS), t ≤ N ∧ i = .int .i64 t ∧ QBlk wr b s ∧ QBlk wr c q ∧ Same s q k ∧ Upd Non w wr) (fun i _ => N - (intOf i).toNat)
  case atStart => exact ⟨0, QS.fresh, QS.fresh, by omega, rfl, HB3.out, HC3.out, ⟨rfl, rfl⟩, HU3.out⟩
  case round =>
    clear HB3 HC3 HU3
    obtain ⟨t, s, q, ht, rfl, hB, hC, hS, hu⟩ := hrel
    have HB := Lib.hid hB
    have HC := Lib.hid hC
    have HS := Lib.hid hS
    have HU := Lib.hid hu
    clear hB hC hS hu
    by_cases hlt : t < N
    case neg =>
      have k1 : ¬ (t : Int) < N := by omega
      go_wp2_with fail
      go_ret
      exact ⟨rfl, HU.out⟩
    have k1 : (t : Int) < N := by omega
    obtain ⟨ba, o, rfl, hcells⟩ := HD.out (by omega)
    obtain ⟨ce0, ce1⟩ := hcells t hlt
    obtain ⟨hh, hhe⟩ : ∃ x, x = H t := ⟨_, rfl⟩
    obtain ⟨kk, kke⟩ : ∃ x, x = K t := ⟨_, rfl⟩
    rw [← hhe] at ce0
    rw [← kke] at ce1
    have CE := Lib.hid (And.intro ce0 ce1)
    have hba : ba < w.heap.size := World.block_lt_of_cell? _ _ ce0
    have m1 : ba ≠ b := by omega
    have m2 : ba ≠ c := by omega
    have d0 := HU.out.cell_eq id CE.out.1
    have d1 := HU.out.cell_eq id CE.out.2
    clear hcells ce0 ce1 hhe kke HD
    obtain ⟨ow, how⟩ : ∃ x, (kk == (k : Int)) = x := ⟨_, rfl⟩
    go_upto_block 2 with fail
    have HOW := Lib.hid how
    clear how
    go_cut [] (fun wx => ∃ s2 q2, QBlk wx b s2 ∧ QBlk wx c q2 ∧ Same s2 q2 k ∧ Upd Non w wx)
    case first =>
      by_cases hown : kk = (k : Int)
      · subst hown
        obtain rfl : true = ow := by rw [← HOW.out]; simp
        by_cases h0 : hh = 0
        · subst h0
          go_wp2_with fail
          have m1' : ¬ ba = b := m1
          go_region_held3 (fun w' => w'.cell? ⟨ba, o + t * 2 + 1, none⟩ = some (.int .i64 (k : Int))) (first | exact d1 | exact U3.cell_eq id d1 | exact U3.cell_eq id (by assumption) | exact U4.cell_eq m1' (by assumption))
            (first | (go_at_call 32; refine Calls.mono (ask_spec t _) ?_; rintro e w3 ⟨rfl, U3⟩) | (go_at_call 31; refine Calls.mono (put_any s b k (AK.of t) _ (QBlk.upd U3 (QBlk.upd (S := Non) (by ((with_reducible repeat' first | exact Upd.refl _ _ | apply Upd.drew | apply Upd.drewN | apply Upd.alloc | refine Upd.setCell ?_ ?_) <;> first | (intro _ _ h; exact h) | (intro _ _ h; exact h.elim) | (intro i h1 h2; exfalso; (try simp only at h2); omega) | (left; rfl) | (right; dsimp only; omega) | (right; omega))) HB.out id) id)) ?_; rintro e w4 ⟨rfl, hB4, U4⟩))
          have HC3 := Lib.hid (QBlk.upd U3 (QBlk.upd (S := Non) (by ((with_reducible repeat' first | exact Upd.refl _ _ | apply Upd.drew | apply Upd.drewN | apply Upd.alloc | refine Upd.setCell ?_ ?_) <;> first | (intro _ _ h; exact h) | (intro _ _ h; exact h.elim) | (intro i h1 h2; exfalso; (try simp only at h2); omega) | (left; rfl) | (right; dsimp only; omega) | (right; omega))) HC.out id) id)
          have HU3 := Lib.hid (by have h := HU.out; ((with_reducible repeat' first | exact Upd.refl _ _ | apply Upd.drew | apply Upd.drewN | apply Upd.alloc | refine Upd.setCell ?_ ?_ | refine Upd.call U3 ?_ ?_ | refine Upd.call h ?_ ?_) <;> first | (intro _ _ h; exact h) | (intro _ _ h; exact h.elim) | (intro i h1 h2; exfalso; (try simp only at h2); omega) | (left; rfl) | (right; dsimp only; omega) | (right; omega)) : Upd Non w w3)
          clear U3
          have HB4 := Lib.hid hB4
          have HC4 := Lib.hid (QBlk.upd U4 HC3.out (fun h => n1 h.symm))
          have HU4 := Lib.hid (by have h := HU3.out; ((with_reducible repeat' first | exact Upd.refl _ _ | apply Upd.drew | apply Upd.drewN | apply Upd.alloc | refine Upd.setCell ?_ ?_ | refine Upd.call U4 ?_ ?_ | refine Upd.call h ?_ ?_) <;> first | (intro _ _ h; exact h) | (intro _ _ h; exact h.elim) | (intro i h1 h2; exfalso; (try simp only at h2); omega) | (left; rfl) | (right; dsimp only; omega) | (right; omega)) : Upd Non w w4)
          clear hB4 U4
          clear HC3 HU3 HB HC HU
          go_wp2_with fail
          refine (ask_spec t _).mono ?_
          rintro e w5 ⟨rfl, U5⟩
          have HB5 := Lib.hid (QBlk.upd U5 HB4.out id)
          have HC5 := Lib.hid (QBlk.upd U5 HC4.out id)
          have HU5 := Lib.hid (by have h := HU4.out; ((with_reducible repeat' first | exact Upd.refl _ _ | apply Upd.drew | apply Upd.drewN | apply Upd.alloc | refine Upd.setCell ?_ ?_ | refine Upd.call U5 ?_ ?_ | refine Upd.call h ?_ ?_) <;> first | (intro _ _ h; exact h) | (intro _ _ h; exact h.elim) | (intro i h1 h2; exfalso; (try simp only at h2); omega) | (left; rfl) | (right; dsimp only; omega) | (right; omega)) : Upd Non w w5)
          clear U5
          go_wp2_with fail
          refine (put_any q c k (AK.of t) _ HC5.out).mono ?_
          rintro e w6 ⟨rfl, hC6, U6⟩
          have HC6 := Lib.hid hC6
          have HB6 := Lib.hid (QBlk.upd U6 HB5.out n1)
          have HU6 := Lib.hid (by have h := HU5.out; ((with_reducible repeat' first | exact Upd.refl _ _ | apply Upd.drew | apply Upd.drewN | apply Upd.alloc | refine Upd.setCell ?_ ?_ | refine Upd.call U6 ?_ ?_ | refine Upd.call h ?_ ?_) <;> first | (intro _ _ h; exact h) | (intro _ _ h; exact h.elim) | (intro i h1 h2; exfalso; (try simp only at h2); omega) | (left; rfl) | (right; dsimp only; omega) | (right; omega)) : Upd Non w w6)
          clear hC6 U6
          rw [HS.out.putE]
          generalize s.putE k = E at *
          go_wp2_with fail
          go_meet
          exact ⟨_, _, HB6.out, HC6.out, HS.out.put (AK.of t), HU6.out⟩
        by_cases h1 : hh = 1
        · subst h1
          clear h0
          go_wp2_with fail
          refine (take_any s b k _ HB.out).mono ?_
          rintro e w3 ⟨rfl, hB3, U3⟩
          have HB3 := Lib.hid hB3
          have HC3 := Lib.hid (QBlk.upd U3 HC.out (fun h => n1 h.symm))
          have HU3 := Lib.hid (by have h := HU.out; ((with_reducible repeat' first | exact Upd.refl _ _ | apply Upd.drew | apply Upd.drewN | apply Upd.alloc | refine Upd.setCell ?_ ?_ | refine Upd.call U3 ?_ ?_ | refine Upd.call h ?_ ?_) <;> first | (intro _ _ h; exact h) | (intro _ _ h; exact h.elim) | (intro i h1 h2; exfalso; (try simp only at h2); omega) | (left; rfl) | (right; dsimp only; omega) | (right; omega)) : Upd Non w w3)
          clear hB3 U3
          clear HB HC HU d0 d1
          go_wp2_with (refine wpList_store_row rfl 55 _ _ rfl w3.heap.size (s.takeA k).enc rfl rfl 55 AK.no.enc (heap_alloc_new w3 _) (by kernel_rfl) rfl (AK.enc_one _) ?_; rw [World.setRow_alloc_new])
          obtain ⟨b10, hb10⟩ : ∃ x, x = w3.heap.size := ⟨_, rfl⟩
          have HX3 := Lib.hid (show Blk (w3.alloc (.cells (s.takeA k).enc 55)) b10 (s.takeA k).enc 55 from Blk.newAt hb10)
          have hcb : c ≠ b10 := by have := HC3.out.blk.lt; omega
          rw [← hb10]
          refine (take_any q c k _ (QBlk.upd (S := Non) (by ((with_reducible repeat' first | exact Upd.refl _ _ | apply Upd.drew | apply Upd.drewN | apply Upd.alloc | refine Upd.setCell ?_ ?_) <;> first | (intro _ _ h; exact h) | (intro _ _ h; exact h.elim) | (intro i h1 h2; exfalso; (try simp only at h2); omega) | (left; rfl) | (right; dsimp only; omega) | (right; omega))) HC3.out id)).mono ?_
          rintro e w4 ⟨rfl, hC4, U4⟩
          have U4' := U4
          have HC4 := Lib.hid hC4
          have HB4 := Lib.hid (QBlk.upd U4 (QBlk.upd (S := Non) (by ((with_reducible repeat' first | exact Upd.refl _ _ | apply Upd.drew | apply Upd.drewN | apply Upd.alloc | refine Upd.setCell ?_ ?_) <;> first | (intro _ _ h; exact h) | (intro _ _ h; exact h.elim) | (intro i h1 h2; exfalso; (try simp only at h2); omega) | (left; rfl) | (right; dsimp only; omega) | (right; omega))) HB3.out id) n1)
          have HU4 := Lib.hid (by have h := HU3.out; ((with_reducible repeat' first | exact Upd.refl _ _ | apply Upd.drew | apply Upd.drewN | apply Upd.alloc | refine Upd.setCell ?_ ?_ | refine Upd.call U4 ?_ ?_ | refine Upd.call h ?_ ?_) <;> first | (intro _ _ h; exact h) | (intro _ _ h; exact h.elim) | (intro i h1 h2; exfalso; (try simp only at h2); omega) | (left; rfl) | (right; dsimp only; omega) | (right; omega)) : Upd Non w w4)
          clear hC4 U4
          rw [HS.out.takeA, HS.out.takeO]
          have HX4 := Lib.hid (Blk.upd U4' HX3.out (fun h => hcb h.symm))
          clear U4' HX3 HB3 HC3 HU3 hb10
          go_wp2_with (first
            | (refine wpList_store_row rfl 55 _ _ rfl w4.heap.size (s.takeA k).enc rfl rfl 55 AK.no.enc (heap_alloc_new w4 _) (by kernel_rfl) rfl (AK.enc_one _) ?_; rw [World.setRow_alloc_new])
            | (refine wpList_load_row rfl 55 _ rfl b10 rfl 55 _ (0, 0) _ (Blk.alloc HX4.out) Try.underlying55 rfl (by kernel_rfl) ?_)
            | (refine wpList_load_row rfl 55 _ rfl w4.heap.size rfl 55 _ (0, 0) _ (Blk.new w4 _ _) Try.underlying55 rfl (by kernel_rfl) ?_)
            | (refine wpList_same (by rfl) .neq 55 55 _ _ rfl (s.takeA k).enc (s.takeA k).enc (.bool false) rfl rfl Try.eqGuardType55 (ask_ne (s.takeA k) _) ?_))
          go_meet
          exact ⟨_, _, QBlk.upd (S := Non) (by ((with_reducible repeat' first | exact Upd.refl _ _ | apply Upd.drew | apply Upd.drewN | apply Upd.alloc | refine Upd.setCell ?_ ?_) <;> first | (intro _ _ h; exact h) | (intro _ _ h; exact h.elim) | (intro i h1 h2; exfalso; (try simp only at h2); omega) | (left; rfl) | (right; dsimp only; omega) | (right; omega))) HB4.out id, QBlk.upd (S := Non) (by ((with_reducible repeat' first | exact Upd.refl _ _ | apply Upd.drew | apply Upd.drewN | apply Upd.alloc | refine Upd.setCell ?_ ?_) <;> first | (intro _ _ h; exact h) | (intro _ _ h; exact h.elim) | (intro i h1 h2; exfalso; (try simp only at h2); omega) | (left; rfl) | (right; dsimp only; omega) | (right; omega))) HC4.out id, HS.out.take, by have h := HU4.out; ((with_reducible repeat' first | exact Upd.refl _ _ | apply Upd.drew | apply Upd.drewN | apply Upd.alloc | refine Upd.setCell ?_ ?_ | refine Upd.call h ?_ ?_) <;> first | (intro _ _ h; exact h) | (intro _ _ h; exact h.elim) | (intro i h1 h2; exfalso; (try simp only at h2); omega) | (left; rfl) | (right; dsimp only; omega) | (right; omega))⟩
        by_cases h2 : hh = 2
        · subst h2
          clear h0 h1
          go_wp2_with fail
          refine (back_any s b k _ HB.out).mono ?_
          rintro e w3 ⟨rfl, hB3, U3⟩
          have HB3 := Lib.hid hB3
          have HC3 := Lib.hid (QBlk.upd U3 HC.out (fun h => n1 h.symm))
          have HU3 := Lib.hid (by have h := HU.out; ((with_reducible repeat' first | exact Upd.refl _ _ | apply Upd.drew | apply Upd.drewN | apply Upd.alloc | refine Upd.setCell ?_ ?_ | refine Upd.call U3 ?_ ?_ | refine Upd.call h ?_ ?_) <;> first | (intro _ _ h; exact h) | (intro _ _ h; exact h.elim) | (intro i h1 h2; exfalso; (try simp only at h2); omega) | (left; rfl) | (right; dsimp only; omega) | (right; omega)) : Upd Non w w3)
          clear hB3 U3
          go_wp2_with fail
          refine (back_any q c k _ HC3.out).mono ?_
          rintro e w4 ⟨rfl, hC4, U4⟩
          have HC4 := Lib.hid hC4
          have HB4 := Lib.hid (QBlk.upd U4 HB3.out n1)
          have HU4 := Lib.hid (by have h := HU3.out; ((with_reducible repeat' first | exact Upd.refl _ _ | apply Upd.drew | apply Upd.drewN | apply Upd.alloc | refine Upd.setCell ?_ ?_ | refine Upd.call U4 ?_ ?_ | refine Upd.call h ?_ ?_) <;> first | (intro _ _ h; exact h) | (intro _ _ h; exact h.elim) | (intro i h1 h2; exfalso; (try simp only at h2); omega) | (left; rfl) | (right; dsimp only; omega) | (right; omega)) : Upd Non w w4)
          clear hC4 U4
          rw [HS.out.backE]
          generalize s.backE k = E at *
          go_wp2_with fail
          go_meet
          exact ⟨_, _, HB4.out, HC4.out, HS.out.back, HU4.out⟩
        have e0 : (hh == 0) = false := by simpa using h0
        have e1 : (hh == 1) = false := by simpa using h1
        have e2 : (hh == 2) = false := by simpa using h2
        clear h0 h1 h2
        go_wp2_with fail
        go_meet
        exact ⟨s, q, HB.out, HC.out, HS.out, HU.out⟩
      · obtain rfl : false = ow := by rw [← HOW.out]; simpa using hown
        have HO := Lib.hid hown
        clear hown
        by_cases h0 : hh = 0
        · subst h0
          go_wp2_with fail
          have m1' : ¬ ba = b := m1
          go_region_held3 (fun w' => w'.cell? ⟨ba, o + t * 2 + 1, none⟩ = some (.int .i64 kk)) (first | exact d1 | exact U3.cell_eq id d1 | exact U3.cell_eq id (by assumption) | exact U4.cell_eq m1' (by assumption))
            (first | (go_at_call 32; refine Calls.mono (ask_spec t _) ?_; rintro e w3 ⟨rfl, U3⟩) | (go_at_call 31; refine Calls.mono (put_any s b kk (AK.of t) _ (QBlk.upd U3 (QBlk.upd (S := Non) (by ((with_reducible repeat' first | exact Upd.refl _ _ | apply Upd.drew | apply Upd.drewN | apply Upd.alloc | refine Upd.setCell ?_ ?_) <;> first | (intro _ _ h; exact h) | (intro _ _ h; exact h.elim) | (intro i h1 h2; exfalso; (try simp only at h2); omega) | (left; rfl) | (right; dsimp only; omega) | (right; omega))) HB.out id) id)) ?_; rintro e w4 ⟨rfl, hB4, U4⟩))
          have HC3 := Lib.hid (QBlk.upd U3 (QBlk.upd (S := Non) (by ((with_reducible repeat' first | exact Upd.refl _ _ | apply Upd.drew | apply Upd.drewN | apply Upd.alloc | refine Upd.setCell ?_ ?_) <;> first | (intro _ _ h; exact h) | (intro _ _ h; exact h.elim) | (intro i h1 h2; exfalso; (try simp only at h2); omega) | (left; rfl) | (right; dsimp only; omega) | (right; omega))) HC.out id) id)
          have HU3 := Lib.hid (by have h := HU.out; ((with_reducible repeat' first | exact Upd.refl _ _ | apply Upd.drew | apply Upd.drewN | apply Upd.alloc | refine Upd.setCell ?_ ?_ | refine Upd.call U3 ?_ ?_ | refine Upd.call h ?_ ?_) <;> first | (intro _ _ h; exact h) | (intro _ _ h; exact h.elim) | (intro i h1 h2; exfalso; (try simp only at h2); omega) | (left; rfl) | (right; dsimp only; omega) | (right; omega)) : Upd Non w w3)
          clear U3
          have HB4 := Lib.hid hB4
          have HC4 := Lib.hid (QBlk.upd U4 HC3.out (fun h => n1 h.symm))
          have HU4 := Lib.hid (by have h := HU3.out; ((with_reducible repeat' first | exact Upd.refl _ _ | apply Upd.drew | apply Upd.drewN | apply Upd.alloc | refine Upd.setCell ?_ ?_ | refine Upd.call U4 ?_ ?_ | refine Upd.call h ?_ ?_) <;> first | (intro _ _ h; exact h) | (intro _ _ h; exact h.elim) | (intro i h1 h2; exfalso; (try simp only at h2); omega) | (left; rfl) | (right; dsimp only; omega) | (right; omega)) : Upd Non w w4)
          clear hB4 U4
          clear HC3 HU3 HB HC HU
          go_wp2_with fail
          go_meet
          exact ⟨_, _, HB4.out, HC4.out, HS.out.put_other HO.out (AK.of t), HU4.out⟩
        by_cases h1 : hh = 1
        · subst h1
          clear h0
          go_wp2_with fail
          refine (take_any s b kk _ HB.out).mono ?_
          rintro e w3 ⟨rfl, hB3, U3⟩
          have HB3 := Lib.hid hB3
          have HC3 := Lib.hid (QBlk.upd U3 HC.out (fun h => n1 h.symm))
          have HU3 := Lib.hid (by have h := HU.out; ((with_reducible repeat' first | exact Upd.refl _ _ | apply Upd.drew | apply Upd.drewN | apply Upd.alloc | refine Upd.setCell ?_ ?_ | refine Upd.call U3 ?_ ?_ | refine Upd.call h ?_ ?_) <;> first | (intro _ _ h; exact h) | (intro _ _ h; exact h.elim) | (intro i h1 h2; exfalso; (try simp only at h2); omega) | (left; rfl) | (right; dsimp only; omega) | (right; omega)) : Upd Non w w3)
          clear hB3 U3
          clear HB HC HU d0 d1
          go_wp2_with (refine wpList_store_row rfl 55 _ _ rfl w3.heap.size (s.takeA kk).enc rfl rfl 55 AK.no.enc (heap_alloc_new w3 _) (by kernel_rfl) rfl (AK.enc_one _) ?_; rw [World.setRow_alloc_new])
          go_meet
          exact ⟨_, _, QBlk.upd (S := Non) (by ((with_reducible repeat' first | exact Upd.refl _ _ | apply Upd.drew | apply Upd.drewN | apply Upd.alloc | refine Upd.setCell ?_ ?_) <;> first | (intro _ _ h; exact h) | (intro _ _ h; exact h.elim) | (intro i h1 h2; exfalso; (try simp only at h2); omega) | (left; rfl) | (right; dsimp only; omega) | (right; omega))) HB3.out id, QBlk.upd (S := Non) (by ((with_reducible repeat' first | exact Upd.refl _ _ | apply Upd.drew | apply Upd.drewN | apply Upd.alloc | refine Upd.setCell ?_ ?_) <;> first | (intro _ _ h; exact h) | (intro _ _ h; exact h.elim) | (intro i h1 h2; exfalso; (try simp only at h2); omega) | (left; rfl) | (right; dsimp only; omega) | (right; omega))) HC3.out id, HS.out.take_other HO.out, by have h := HU3.out; ((with_reducible repeat' first | exact Upd.refl _ _ | apply Upd.drew | apply Upd.drewN | apply Upd.alloc | refine Upd.setCell ?_ ?_ | refine Upd.call h ?_ ?_) <;> first | (intro _ _ h; exact h) | (intro _ _ h; exact h.elim) | (intro i h1 h2; exfalso; (try simp only at h2); omega) | (left; rfl) | (right; dsimp only; omega) | (right; omega))⟩
        by_cases h2 : hh = 2
        · subst h2
          clear h0 h1
          go_wp2_with fail
          refine (back_any s b kk _ HB.out).mono ?_
          rintro e w3 ⟨rfl, hB3, U3⟩
          have HB3 := Lib.hid hB3
          have HC3 := Lib.hid (QBlk.upd U3 HC.out (fun h => n1 h.symm))
          have HU3 := Lib.hid (by have h := HU.out; ((with_reducible repeat' first | exact Upd.refl _ _ | apply Upd.drew | apply Upd.drewN | apply Upd.alloc | refine Upd.setCell ?_ ?_ | refine Upd.call U3 ?_ ?_ | refine Upd.call h ?_ ?_) <;> first | (intro _ _ h; exact h) | (intro _ _ h; exact h.elim) | (intro i h1 h2; exfalso; (try simp only at h2); omega) | (left; rfl) | (right; dsimp only; omega) | (right; omega)) : Upd Non w w3)
          clear hB3 U3
          go_wp2_with fail
          go_meet
          exact ⟨_, _, HB3.out, HC3.out, HS.out.back_other HO.out, HU3.out⟩
        have e0 : (hh == 0) = false := by simpa using h0
        have e1 : (hh == 1) = false := by simpa using h1
        have e2 : (hh == 2) = false := by simpa using h2
        clear h0 h1 h2
        go_wp2_with fail
        go_meet
        exact ⟨s, q, HB.out, HC.out, HS.out, HU.out⟩
    case rest =>
      obtain ⟨s2, q2, hB, hC, hS, hU⟩ := hcut
      clear HB HC HS HU d0 d1 HOW
      have HB := Lib.hid hB
      have HC := Lib.hid hC
      have HS := Lib.hid hS
      have HU := Lib.hid hU
      clear hB hC hS hU
      go_wp2_with fail
      refine (look_any s2 b k _ HB.out).mono ?_
      rintro e w3 ⟨rfl, U3⟩
      have HB3 := Lib.hid (QBlk.upd U3 HB.out id)
      have HC3 := Lib.hid (QBlk.upd U3 HC.out id)
      have HU3 := Lib.hid (by have h := HU.out; ((with_reducible repeat' first | exact Upd.refl _ _ | apply Upd.drew | apply Upd.drewN | apply Upd.alloc | refine Upd.setCell ?_ ?_ | refine Upd.call U3 ?_ ?_ | refine Upd.call h ?_ ?_) <;> first | (intro _ _ h; exact h) | (intro _ _ h; exact h.elim) | (intro i h1 h2; exfalso; (try simp only at h2); omega) | (left; rfl) | (right; dsimp only; omega) | (right; omega)) : Upd Non w w3)
      clear U3 HB HC HU
      go_wp2_with (refine wpList_store_row rfl 55 _ _ rfl w3.heap.size (s2.lookA k).enc rfl rfl 55 AK.no.enc (heap_alloc_new w3 _) (by kernel_rfl) rfl (AK.enc_one _) ?_; rw [World.setRow_alloc_new])
      obtain ⟨b15, hb15⟩ : ∃ x, x = w3.heap.size := ⟨_, rfl⟩
      have HX3 := Lib.hid (show Blk (w3.alloc (.cells (s2.lookA k).enc 55)) b15 (s2.lookA k).enc 55 from Blk.newAt hb15)
      rw [← hb15]
      refine (look_any q2 c k _ (QBlk.upd (S := Non) (by ((with_reducible repeat' first | exact Upd.refl _ _ | apply Upd.drew | apply Upd.drewN | apply Upd.alloc | refine Upd.setCell ?_ ?_) <;> first | (intro _ _ h; exact h) | (intro _ _ h; exact h.elim) | (intro i h1 h2; exfalso; (try simp only at h2); omega) | (left; rfl) | (right; dsimp only; omega) | (right; omega))) HC3.out id)).mono ?_
      rintro e w4 ⟨rfl, U4⟩
      have HB4 := Lib.hid (QBlk.upd U4 (QBlk.upd (S := Non) (by ((with_reducible repeat' first | exact Upd.refl _ _ | apply Upd.drew | apply Upd.drewN | apply Upd.alloc | refine Upd.setCell ?_ ?_) <;> first | (intro _ _ h; exact h) | (intro _ _ h; exact h.elim) | (intro i h1 h2; exfalso; (try simp only at h2); omega) | (left; rfl) | (right; dsimp only; omega) | (right; omega))) HB3.out id) id)
      have HC4 := Lib.hid (QBlk.upd U4 (QBlk.upd (S := Non) (by ((with_reducible repeat' first | exact Upd.refl _ _ | apply Upd.drew | apply Upd.drewN | apply Upd.alloc | refine Upd.setCell ?_ ?_) <;> first | (intro _ _ h; exact h) | (intro _ _ h; exact h.elim) | (intro i h1 h2; exfalso; (try simp only at h2); omega) | (left; rfl) | (right; dsimp only; omega) | (right; omega))) HC3.out id) id)
      have HU4 := Lib.hid (by have h := HU3.out; ((with_reducible repeat' first | exact Upd.refl _ _ | apply Upd.drew | apply Upd.drewN | apply Upd.alloc | refine Upd.setCell ?_ ?_ | refine Upd.call U4 ?_ ?_ | refine Upd.call h ?_ ?_) <;> first | (intro _ _ h; exact h) | (intro _ _ h; exact h.elim) | (intro i h1 h2; exfalso; (try simp only at h2); omega) | (left; rfl) | (right; dsimp only; omega) | (right; omega)) : Upd Non w w4)
      have HX4 := Lib.hid (Blk.upd U4 HX3.out id)
      rw [HS.out.lookA, HS.out.lookO]
      clear U4 HB3 HC3 HU3 HX3 hb15
      go_wp2_with (refine wpList_store_row rfl 55 _ _ rfl w4.heap.size (s2.lookA k).enc rfl rfl 55 AK.no.enc (heap_alloc_new w4 _) (by kernel_rfl) rfl (AK.enc_one _) ?_; rw [World.setRow_alloc_new])
      refine (state_any s2 b k _ (QBlk.upd (S := Non) (by ((with_reducible repeat' first | exact Upd.refl _ _ | apply Upd.drew | apply Upd.drewN | apply Upd.alloc | refine Upd.setCell ?_ ?_) <;> first | (intro _ _ h; exact h) | (intro _ _ h; exact h.elim) | (intro i h1 h2; exfalso; (try simp only at h2); omega) | (left; rfl) | (right; dsimp only; omega) | (right; omega))) HB4.out id)).mono ?_
      rintro e w5 ⟨rfl, rfl⟩
      go_wp2_with fail
      refine (state_any q2 c k _ (QBlk.upd (S := Non) (by ((with_reducible repeat' first | exact Upd.refl _ _ | apply Upd.drew | apply Upd.drewN | apply Upd.alloc | refine Upd.setCell ?_ ?_) <;> first | (intro _ _ h; exact h) | (intro _ _ h; exact h.elim) | (intro i h1 h2; exfalso; (try simp only at h2); omega) | (left; rfl) | (right; dsimp only; omega) | (right; omega))) HC4.out id)).mono ?_
      rintro e w6 ⟨rfl, rfl⟩
      rw [HS.out.stE]
      generalize s2.stE k = E at *
      generalize s2.lookO k = O at *
      have z1 : (E != E) = false := by simp
      have z2 : (O != O) = false := by simp
      go_wp2_with (first
        | (refine wpList_load_rowG (by rfl) 55 _ rfl b15 rfl 55 _ (0, 0) _ (Blk.alloc HX4.out) Try.underlying55 rfl (by kernel_rfl) ?_)
        | (refine wpList_load_rowG (by rfl) 55 _ rfl w4.heap.size rfl 55 _ (0, 0) _ (Blk.new w4 _ _) Try.underlying55 rfl (by kernel_rfl) ?_)
        | (refine wpList_same (by rfl) .neq 55 55 _ _ rfl (s2.lookA k).enc (s2.lookA k).enc (.bool false) rfl rfl Try.eqGuardType55 (ask_ne (s2.lookA k) _) ?_))
      go_roundw
      case rel => exact ⟨t + 1, s2, q2, by omega, by go_num, QBlk.upd (S := Non) (by ((with_reducible repeat' first | exact Upd.refl _ _ | apply Upd.drew | apply Upd.drewN | apply Upd.alloc | refine Upd.setCell ?_ ?_) <;> first | (intro _ _ h; exact h) | (intro _ _ h; exact h.elim) | (intro i h1 h2; exfalso; (try simp only at h2); omega) | (left; rfl) | (right; dsimp only; omega) | (right; omega))) HB4.out id, QBlk.upd (S := Non) (by ((with_reducible repeat' first | exact Upd.refl _ _ | apply Upd.drew | apply Upd.drewN | apply Upd.alloc | refine Upd.setCell ?_ ?_) <;> first | (intro _ _ h; exact h) | (intro _ _ h; exact h.elim) | (intro i h1 h2; exfalso; (try simp only at h2); omega) | (left; rfl) | (right; dsimp only; omega) | (right; omega))) HC4.out id, HS.out, by have h := HU4.out; ((with_reducible repeat' first | exact Upd.refl _ _ | apply Upd.drew | apply Upd.drewN | apply Upd.alloc | refine Upd.setCell ?_ ?_ | refine Upd.call h ?_ ?_) <;> first | (intro _ _ h; exact h) | (intro _ _ h; exact h.elim) | (intro i h1 h2; exfalso; (try simp only at h2); omega) | (left; rfl) | (right; dsimp only; omega) | (right; omega))⟩
      case measure => simp [intOf]; omega

theorem apart_law (A : Option Addr) (N cc : Nat) (v : Int) (H K : Nat → Int) (w : World)
    (hd : 0 < N → ∃ b o, A = some ⟨b, o, none⟩ ∧ ∀ j, j < N → w.cell? ⟨b, o + j * 2, none⟩ = some (.int .i64 (H j)) ∧ w.cell? ⟨b, o + j * 2 + 1, none⟩ = some (.int .i64 (K j))) :
    Calls Try.prog 9 #[.slice A N cc, .int .i64 v] w fun e w' => e = .returned (.bool true) ∧ Upd Non w w' := by
  by_cases h : 300 < N ∨ v < 0 ∨ 7 < v
  · exact apart_none A N cc v h w
  · obtain ⟨k, rfl⟩ : ∃ k : Nat, v = k := ⟨v.toNat, by omega⟩
    exact apart_some A N cc H K k (by omega) (by omega) w hd
end Go.Proofs.Ytmblplhehbdocaa
