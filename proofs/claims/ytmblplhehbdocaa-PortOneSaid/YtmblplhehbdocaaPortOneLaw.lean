/- PortOne: the law's walk. Conditions: the argument's cells read as numbers. -/
import Derived.Test.YtmblplhehbdocaaPortAwake
import Derived.Deep.CutBlock
namespace Go.Proofs.Ytmblplhehbdocaa
open Go.RowKit

/-- Eight numbers, as an array's cells. -/
def enc8 (f : Nat → Int) : Array Value := #[.int .i64 (f 0), .int .i64 (f 1), .int .i64 (f 2), .int .i64 (f 3), .int .i64 (f 4), .int .i64 (f 5), .int .i64 (f 6), .int .i64 (f 7)]
def upd8 (f : Nat → Int) (k : Nat) (v : Int) : Nat → Int := fun j => if j = k then v else f j
theorem enc8_at (f : Nat → Int) {k : Nat} (hk : k < 8) : (enc8 f)[k]? = some (.int .i64 (f k)) := by
  rcases lt8 hk with rfl | rfl | rfl | rfl | rfl | rfl | rfl | rfl
  all_goals rfl
theorem enc8_set (f : Nat → Int) {k : Nat} (hk : k < 8) (v : Int) : (enc8 f).setIfInBounds k (.int .i64 v) = enc8 (upd8 f k v) := by
  rcases lt8 hk with rfl | rfl | rfl | rfl | rfl | rfl | rfl | rfl
  all_goals rfl
/-- What the law knows of the ports: states are three, what waits or is away is what was put last. -/
structure Inv (s : QS) (la : Nat → Int) : Prop where
  st : ∀ k, k < 8 → s.st k = 0 ∨ s.st k = 1 ∨ s.st k = 2
  ak : ∀ k, k < 8 → s.st k = 1 → ∃ n : Nat, n ≤ 300 ∧ la k = n ∧ s.ak k = AK.of n
theorem Inv.fresh : Inv QS.fresh (fun _ => 0) := ⟨fun _ _ => .inl rfl, fun _ _ h => by cases h⟩
theorem Inv.put {s : QS} {la : Nat → Int} (h : Inv s la) (k n : Nat) (hn : n ≤ 300) : Inv (s.set k 1 (AK.of n)) (upd8 la k n) := by
  refine ⟨fun j hj => ?_, fun j hj hs => ?_⟩
  · show (if j = k then (1 : Int) else s.st j) = 0 ∨ _ = 1 ∨ _ = 2
    show (if j = k then (1 : Int) else s.st j) = 0 ∨ (if j = k then (1 : Int) else s.st j) = 1 ∨ (if j = k then (1 : Int) else s.st j) = 2
    split
    · exact .inr (.inl rfl)
    · exact h.st j hj
  · by_cases hjk : j = k
    · refine ⟨n, hn, ?_, ?_⟩
      · show (if j = k then (n : Int) else la j) = n
        rw [if_pos hjk]
      · show (if j = k then AK.of n else s.ak j) = AK.of n
        rw [if_pos hjk]
    · have h1 : s.st j = 1 := by
        have : (if j = k then (1 : Int) else s.st j) = 1 := hs
        rw [if_neg hjk] at this; exact this
      obtain ⟨m, h2, h3, h4⟩ := h.ak j hj h1
      refine ⟨m, h2, ?_, ?_⟩
      · show (if j = k then (n : Int) else la j) = m
        rw [if_neg hjk]; exact h3
      · show (if j = k then AK.of n else s.ak j) = AK.of m
        rw [if_neg hjk]; exact h4
theorem Inv.take {s : QS} {la : Nat → Int} (h : Inv s la) (k : Nat) : Inv (s.turn k 2) la := by
  refine ⟨fun j hj => ?_, fun j hj hs => ?_⟩
  · show (if j = k then (2 : Int) else s.st j) = 0 ∨ (if j = k then (2 : Int) else s.st j) = 1 ∨ (if j = k then (2 : Int) else s.st j) = 2
    split
    · exact .inr (.inr rfl)
    · exact h.st j hj
  · have h1 : (if j = k then (2 : Int) else s.st j) = 1 := hs
    by_cases hjk : j = k
    · rw [if_pos hjk] at h1; cases h1
    · rw [if_neg hjk] at h1; exact h.ak j hj h1
theorem Inv.back {s : QS} {la : Nat → Int} (h : Inv s la) (k : Nat) : Inv (s.set k 0 AK.no) la := by
  refine ⟨fun j hj => ?_, fun j hj hs => ?_⟩
  · show (if j = k then (0 : Int) else s.st j) = 0 ∨ (if j = k then (0 : Int) else s.st j) = 1 ∨ (if j = k then (0 : Int) else s.st j) = 2
    split
    · exact .inl rfl
    · exact h.st j hj
  · have h1 : (if j = k then (0 : Int) else s.st j) = 1 := hs
    by_cases hjk : j = k
    · rw [if_pos hjk] at h1; cases h1
    · rw [if_neg hjk] at h1
      obtain ⟨m, h2, h3, h4⟩ := h.ak j hj h1
      refine ⟨m, h2, h3, ?_⟩
      show (if j = k then AK.no else s.ak j) = AK.of m
      rw [if_neg hjk]; exact h4

theorem one_long (A : Option Addr) (n c : Nat) (h : 300 < n) (w : World) :
    Calls Try.prog 5 #[.slice A n c] w fun e w' => e = .returned (.bool true) ∧ Upd Non w w' := by
  have h3 : (300 : Int) < n := by omega
  clear h
  go_enter Try.func5, Try.ntmps5
  go_wp2_with (go_at_call 28; refine (awake_spec _).mono ?_; rintro e w1 ⟨rfl, hU1⟩)
  go_ret
  exact ⟨rfl, by ((with_reducible repeat' first | exact Upd.refl _ _ | apply Upd.drew | apply Upd.drewN | apply Upd.alloc | refine Upd.setCell ?_ ?_ | refine Upd.call hU1 ?_ ?_) <;> first | (intro _ _ h; exact h) | (intro _ _ h; exact h.elim) | (intro i h1 h2; exfalso; (try simp only at h2); omega) | (left; rfl) | (right; dsimp only; omega) | (right; omega))⟩

theorem Blk.set8 {W : World} {g : Nat} {f : Nat → Int} (h : Blk W g (enc8 f) 42) {k : Nat} (hk : k < 8) (v : Int) : Blk (W.setCell ⟨g, k, none⟩ (.int .i64 v)) g (enc8 (upd8 f k v)) 42 := by
  rw [← enc8_set f hk v]; exact Blk.set h
theorem state_at (s : QS) (b k : Nat) (v : Int) (hk : k < 8) (hv : s.st k = v) (w : World) (hb : QBlk w b s) :
    Calls Try.prog 34 #[.pointer (some ⟨b, 0, none⟩), .int .i64 k] w fun e w' => e = .returned (.int .i64 v) ∧ w = w' := by
  rw [← hv]; exact state_spec s b k hk w hb
theorem setRow_new {W : World} {n : Nat} {c d : Array Value} {t : TypeId} (h : n = W.heap.size) : (W.alloc (.cells c t)).setRow n d = W.alloc (.cells d t) := by
  subst h; exact World.setRow_alloc_new _ _ _ _
theorem QS.set_st (s : QS) (k : Nat) (v : Int) (x : AK) : (s.set k v x).st k = v := if_pos rfl
theorem QS.turn_st (s : QS) (k : Nat) (v : Int) : (s.turn k v).st k = v := if_pos rfl

/-- Behind a deed: whether it was done, and what has become of the ports and of the law's own rows. -/
def EndP (w wx : World) (b bl bs k : Nat) (s : QS) (hh : Int) (d : Bool) : Prop :=
  ∃ (s' : QS) (la' : Nat → Int), QBlk wx b s' ∧ Blk wx bl (enc8 la') 42 ∧ Blk wx bs (enc8 s.st) 42 ∧ Inv s' la' ∧ Upd Non w wx ∧
    ((d = true ∧ (hh = 0 ∨ hh = 1 ∨ hh = 2) ∧ s.st k = hh ∧ s'.st = upd8 s.st k ((hh + 1) % 3)) ∨ (d = false ∧ (s.st k == hh) = false ∧ s'.st = s.st))

set_option maxRecDepth 100000 in
set_option maxHeartbeats 16000000 in
theorem one_some (A : Option Addr) (N cc : Nat) (H K : Nat → Int) (h2 : N ≤ 300) (w : World)
    (hd : 0 < N → ∃ b o, A = some ⟨b, o, none⟩ ∧ ∀ j, j < N → w.cell? ⟨b, o + j * 2, none⟩ = some (.int .i64 (H j)) ∧ w.cell? ⟨b, o + j * 2 + 1, none⟩ = some (.int .i64 (K j))) :
    Calls Try.prog 5 #[.slice A N cc] w fun e w' => e = .returned (.bool true) ∧ Upd Non w w' := by
  have k0 : ¬ (300 : Int) < N := by omega
  have HD := Lib.hid hd
  clear hd
  go_enter Try.func5, Try.ntmps5
  go_wp2_with fail
  refine (awake_spec _).mono ?_
  rintro e w1 ⟨rfl, U1⟩
  go_wp2_with fail
  refine (new_spec _).mono ?_
  rintro e w2 ⟨rfl, hw2⟩
  obtain ⟨b, hbb⟩ : ∃ b, b = w1.heap.size := ⟨_, rfl⟩
  rw [← hbb]
  have HB2 := Lib.hid (show QBlk w2 b QS.fresh by rw [hw2]; exact Blk.newAt hbb)
  have HU2 := Lib.hid (show Upd Non w w2 by rw [hw2]; exact U1.alloc)
  have hbw : w.heap.size ≤ b := by have := U1.size; omega
  clear hw2 hbb U1
  go_wp2_with fail
  obtain ⟨bs, hbs⟩ : ∃ x, x = w2.heap.size + 1 := ⟨_, rfl⟩
  obtain ⟨bl, hbl⟩ : ∃ x, x = w2.heap.size := ⟨_, rfl⟩
  have hL : Blk ((w2.alloc (.cells (enc8 fun _ => 0) 42)).alloc (.cells (enc8 QS.fresh.st) 42)) bl (enc8 fun _ => 0) 42 := Blk.alloc (Blk.newAt hbl)
  have hS : Blk ((w2.alloc (.cells (enc8 fun _ => 0) 42)).alloc (.cells (enc8 QS.fresh.st) 42)) bs (enc8 QS.fresh.st) 42 := Blk.newAt (by rw [World.size_alloc]; exact hbs)
  have hB : QBlk ((w2.alloc (.cells (enc8 fun _ => 0) 42)).alloc (.cells (enc8 QS.fresh.st) 42)) b QS.fresh := Blk.alloc (Blk.alloc HB2.out)
  have hU : Upd Non w ((w2.alloc (.cells (enc8 fun _ => 0) 42)).alloc (.cells (enc8 QS.fresh.st) 42)) := (HU2.out.alloc).alloc
  have n1 : b ≠ bl := by have := HB2.out.blk.lt; omega
  have n2 : b ≠ bs := by have := HB2.out.blk.lt; omega
  have n3 : bl ≠ bs := by omega
  have hlw : w.heap.size ≤ bl := by have := HU2.out.size; omega
  have hsw : w.heap.size ≤ bs := by have := HU2.out.size; omega
  rw [← hbs, ← hbl]
  have HL := Lib.hid hL
  have HS := Lib.hid hS
  have HB := Lib.hid hB
  have HU := Lib.hid hU
  clear hL hS hB hU HB2 HU2 hbs hbl
  go_loopw [6] (fun i wr => ∃ (t : Nat) (s : QS) (la : Nat → Int), t ≤ N ∧ i = .int .i64 t ∧ QBlk wr b s ∧ Blk wr bl (enc8 la) 42 ∧ Blk wr bs (enc8 s.st) 42 ∧ Inv s la ∧ Upd Non w wr) (fun i _ => N - (intOf i).toNat)
  case atStart => exact ⟨0, QS.fresh, fun _ => 0, by omega, rfl, HB.out, HL.out, HS.out, Inv.fresh, HU.out⟩
  case round =>
    clear HB HL HS HU
    obtain ⟨t, s, la, ht, rfl, hB, hL, hS, hI, hu⟩ := hrel
    have HB := Lib.hid hB
    have HL := Lib.hid hL
    have HS := Lib.hid hS
    have HI := Lib.hid hI
    have HU := Lib.hid hu
    clear hB hL hS hI hu
    by_cases hlt : t < N
    case neg =>
      have k1 : ¬ (t : Int) < N := by omega
      go_wp2_with fail
      go_ret
      exact ⟨rfl, HU.out⟩
    have k1 : (t : Int) < N := by omega
    obtain ⟨ba, o, rfl, hcells⟩ := HD.out (by omega)
    obtain ⟨ce0, ce1⟩ := hcells t hlt
    obtain ⟨hh, hhe⟩ : ∃ x, x = H t := ⟨_, rfl⟩
    obtain ⟨kk, kke⟩ : ∃ x, x = K t := ⟨_, rfl⟩
    rw [← hhe] at ce0
    rw [← kke] at ce1
    have CE := Lib.hid (And.intro ce0 ce1)
    have hba : ba < w.heap.size := World.block_lt_of_cell? _ _ ce0
    have m1 : ba ≠ b := by omega
    have m2 : ba ≠ bl := by omega
    have m3 : ba ≠ bs := by omega
    have d0 := HU.out.cell_eq id CE.out.1
    have d1 := HU.out.cell_eq id CE.out.2
    clear hcells ce0 ce1 hhe kke HD
    by_cases hbad : kk < 0 ∨ 7 < kk
    · have HBAD := Lib.hid hbad
      have hz : ∀ w : World, (binOp .neq 55 (.agg AK.no.enc) (.agg AK.no.enc)).run Try.prog w = .ok (.bool false) w := ask_ne AK.no
      rcases hbad with hbad | hbad
      all_goals
        go_wp2_with fail
        refine (take_bad s b kk HBAD.out _ HB.out).mono ?_
        rintro e w3 ⟨rfl, U3⟩
        have HB3 := Lib.hid (QBlk.upd U3 HB.out id)
        have HL3 := Lib.hid (Blk.upd U3 HL.out id)
        have HS3 := Lib.hid (Blk.upd U3 HS.out id)
        have HU3 := Lib.hid (by have h := HU.out; ((with_reducible repeat' first | exact Upd.refl _ _ | apply Upd.drew | apply Upd.drewN | apply Upd.alloc | refine Upd.setCell ?_ ?_ | refine Upd.call U3 ?_ ?_ | refine Upd.call h ?_ ?_) <;> first | (intro _ _ h; exact h) | (intro _ _ h; exact h.elim) | (intro i h1 h2; exfalso; (try simp only at h2); omega) | (left; rfl) | (right; dsimp only; omega) | (right; omega)) : Upd Non w w3)
        have hb3 := HB3.out.blk.lt
        have hl3 := HL3.out.lt
        have hs3 := HS3.out.lt
        clear U3 d0 d1 HB HL HS HU
        go_wp2_with (first
          | (refine wpList_store_row rfl 55 _ _ rfl w3.heap.size AK.no.enc rfl rfl 55 AK.no.enc (heap_alloc_new w3 _) (by kernel_rfl) rfl (AK.enc_one _) ?_; rw [World.setRow_alloc_new])
          | (refine wpList_store_row rfl 55 _ _ rfl (w3.heap.size + 1) AK.no.enc rfl rfl 55 AK.no.enc (Blk.newAt (by rw [World.size_alloc])) (by kernel_rfl) rfl (AK.enc_one _) ?_; rw [setRow_new (by rw [World.size_alloc])])
          | (refine wpList_load_rowG (by rfl) 55 _ rfl w3.heap.size rfl 55 _ (0, 0) _ (Blk.alloc (Blk.new w3 _ _)) Try.underlying55 rfl (by kernel_rfl) ?_)
          | (refine wpList_load_rowG (by rfl) 55 _ rfl (w3.heap.size + 1) rfl 55 _ (0, 0) _ (Blk.newAt (by rw [World.size_alloc])) Try.underlying55 rfl (by kernel_rfl) ?_)
          | (refine wpList_same (by rfl) .neq 55 55 _ _ rfl AK.no.enc AK.no.enc (.bool false) rfl rfl Try.eqGuardType55 (ask_ne AK.no _) ?_))
        refine (ask_spec t _).mono ?_
        rintro e w4 ⟨rfl, U4⟩
        have HB4 := Lib.hid (QBlk.upd U4 (QBlk.upd (S := Non) (by ((with_reducible repeat' first | exact Upd.refl _ _ | apply Upd.drew | apply Upd.drewN | apply Upd.alloc | refine Upd.setCell ?_ ?_) <;> first | (intro _ _ h; exact h) | (intro _ _ h; exact h.elim) | (intro i h1 h2; exfalso; (try simp only at h2); omega) | (left; rfl) | (right; dsimp only; omega) | (right; omega))) HB3.out id) id)
        have HL4 := Lib.hid (Blk.upd U4 (by have h := HL3.out; ((with_reducible repeat' first | apply Blk.drew | apply Blk.drewN | apply Blk.alloc | apply Blk.set | refine Blk.set_ne ?_ ?_) <;> first | with_reducible exact h | omega | (dsimp only; omega)) : Blk _ bl (enc8 la) 42) id)
        have HS4 := Lib.hid (Blk.upd U4 (by have h := HS3.out; ((with_reducible repeat' first | apply Blk.drew | apply Blk.drewN | apply Blk.alloc | apply Blk.set | refine Blk.set_ne ?_ ?_) <;> first | with_reducible exact h | omega | (dsimp only; omega)) : Blk _ bs (enc8 s.st) 42) id)
        have HU4 := Lib.hid (by have h := HU3.out; ((with_reducible repeat' first | exact Upd.refl _ _ | apply Upd.drew | apply Upd.drewN | apply Upd.alloc | refine Upd.setCell ?_ ?_ | refine Upd.call U4 ?_ ?_ | refine Upd.call h ?_ ?_) <;> first | (intro _ _ h; exact h) | (intro _ _ h; exact h.elim) | (intro i h1 h2; exfalso; (try simp only at h2); omega) | (left; rfl) | (right; dsimp only; omega) | (right; omega)) : Upd Non w w4)
        clear U4 HB3 HL3 HS3 HU3
        go_wp2_with fail
        refine (put_bad s b kk (AK.of t) HBAD.out _ HB4.out).mono ?_
        rintro e w5 ⟨rfl, U5⟩
        have HB5 := Lib.hid (QBlk.upd U5 HB4.out id)
        have HL5 := Lib.hid (Blk.upd U5 HL4.out id)
        have HS5 := Lib.hid (Blk.upd U5 HS4.out id)
        have HU5 := Lib.hid (by have h := HU4.out; ((with_reducible repeat' first | exact Upd.refl _ _ | apply Upd.drew | apply Upd.drewN | apply Upd.alloc | refine Upd.setCell ?_ ?_ | refine Upd.call U5 ?_ ?_ | refine Upd.call h ?_ ?_) <;> first | (intro _ _ h; exact h) | (intro _ _ h; exact h.elim) | (intro i h1 h2; exfalso; (try simp only at h2); omega) | (left; rfl) | (right; dsimp only; omega) | (right; omega)) : Upd Non w w5)
        clear U5 HB4 HL4 HS4 HU4
        go_wp2_with fail
        refine (back_bad s b kk HBAD.out _ HB5.out).mono ?_
        rintro e w6 ⟨rfl, U6⟩
        have HB6 := Lib.hid (QBlk.upd U6 HB5.out id)
        have HL6 := Lib.hid (Blk.upd U6 HL5.out id)
        have HS6 := Lib.hid (Blk.upd U6 HS5.out id)
        have HU6 := Lib.hid (by have h := HU5.out; ((with_reducible repeat' first | exact Upd.refl _ _ | apply Upd.drew | apply Upd.drewN | apply Upd.alloc | refine Upd.setCell ?_ ?_ | refine Upd.call U6 ?_ ?_ | refine Upd.call h ?_ ?_) <;> first | (intro _ _ h; exact h) | (intro _ _ h; exact h.elim) | (intro i h1 h2; exfalso; (try simp only at h2); omega) | (left; rfl) | (right; dsimp only; omega) | (right; omega)) : Upd Non w w6)
        clear U6 HB5 HL5 HS5 HU5
        go_wp2_with fail
        go_roundw
        case rel => exact ⟨t + 1, s, la, by omega, by go_num, HB6.out, HL6.out, HS6.out, HI.out, HU6.out⟩
        case measure => simp [intOf]; omega
    obtain ⟨k, rfl⟩ : ∃ k : Nat, kk = (k : Int) := ⟨kk.toNat, by omega⟩
    have hk : k < 8 := by omega
    clear hbad
    have k2 : ¬ (k : Int) < 0 := by omega
    have k3 : ¬ (7 : Int) < k := by omega
    have k4 : (k : Int) < 8 := by omega
    have hst := HI.out.st k hk
    go_upto_block 2 with fail
    go_cut [11] (fun v wx => ∃ d, v = .bool d ∧ EndP w wx b bl bs k s hh d)
    case first =>
      by_cases h0 : hh = 0
      · subst h0
        go_wp2_with fail
        refine (ask_spec t _).mono ?_
        rintro e w3 ⟨rfl, U3⟩
        have HB3 := Lib.hid (QBlk.upd U3 HB.out id)
        have HL3 := Lib.hid (Blk.upd U3 HL.out id)
        have HS3 := Lib.hid (Blk.upd U3 HS.out id)
        have HU3 := Lib.hid (by have h := HU.out; ((with_reducible repeat' first | exact Upd.refl _ _ | apply Upd.drew | apply Upd.drewN | apply Upd.alloc | refine Upd.setCell ?_ ?_ | refine Upd.call U3 ?_ ?_ | refine Upd.call h ?_ ?_) <;> first | (intro _ _ h; exact h) | (intro _ _ h; exact h.elim) | (intro i h1 h2; exfalso; (try simp only at h2); omega) | (left; rfl) | (right; dsimp only; omega) | (right; omega)) : Upd Non w w3)
        clear U3 HB HL HS HU d0 d1
        by_cases hs0 : s.st k = 0
        · have HS0 := Lib.hid hs0
          clear hs0 hst
          go_wp2_with fail
          refine (put_ok s b k (AK.of t) hk HS0.out _ HB3.out).mono ?_
          rintro e w4 ⟨rfl, hB4, U4⟩
          have HB4 := Lib.hid hB4
          have HL4 := Lib.hid (Blk.upd U4 HL3.out (fun h => n1 h.symm))
          have HS4 := Lib.hid (Blk.upd U4 HS3.out (fun h => n2 h.symm))
          have HU4 := Lib.hid (by have h := HU3.out; ((with_reducible repeat' first | exact Upd.refl _ _ | apply Upd.drew | apply Upd.drewN | apply Upd.alloc | refine Upd.setCell ?_ ?_ | refine Upd.call U4 ?_ ?_ | refine Upd.call h ?_ ?_) <;> first | (intro _ _ h; exact h) | (intro _ _ h; exact h.elim) | (intro i h1 h2; exfalso; (try simp only at h2); omega) | (left; rfl) | (right; dsimp only; omega) | (right; omega)) : Upd Non w w4)
          have f0 := HL4.out.frozen k
          have f1 := HL4.out.cell k (enc8_at la hk)
          clear hB4 U4 HB3 HL3 HS3 HU3
          go_wp2_with fail
          go_meet
          exact ⟨true, rfl, s.set k 1 (AK.of t), upd8 la k t, Blk.set_ne HB4.out n1, Blk.set8 HL4.out hk _, Blk.set_ne HS4.out (fun h => n3 h.symm), HI.out.put k t (by omega), by have h := HU4.out; ((with_reducible repeat' first | exact Upd.refl _ _ | apply Upd.drew | apply Upd.drewN | apply Upd.alloc | refine Upd.setCell ?_ ?_ | refine Upd.call h ?_ ?_) <;> first | (intro _ _ h; exact h) | (intro _ _ h; exact h.elim) | (intro i h1 h2; exfalso; (try simp only at h2); omega) | (left; rfl) | (right; dsimp only; omega) | (right; omega)), .inl ⟨rfl, .inl rfl, HS0.out, rfl⟩⟩
        · have HS0 := Lib.hid hs0
          clear hs0 hst
          go_wp2_with fail
          refine (put_busy s b k (AK.of t) hk HS0.out _ HB3.out).mono ?_
          rintro e w4 ⟨rfl, U4⟩
          have HB4 := Lib.hid (QBlk.upd U4 HB3.out id)
          have HL4 := Lib.hid (Blk.upd U4 HL3.out id)
          have HS4 := Lib.hid (Blk.upd U4 HS3.out id)
          have HU4 := Lib.hid (by have h := HU3.out; ((with_reducible repeat' first | exact Upd.refl _ _ | apply Upd.drew | apply Upd.drewN | apply Upd.alloc | refine Upd.setCell ?_ ?_ | refine Upd.call U4 ?_ ?_ | refine Upd.call h ?_ ?_) <;> first | (intro _ _ h; exact h) | (intro _ _ h; exact h.elim) | (intro i h1 h2; exfalso; (try simp only at h2); omega) | (left; rfl) | (right; dsimp only; omega) | (right; omega)) : Upd Non w w4)
          clear U4 HB3 HL3 HS3 HU3
          go_wp2_with fail
          go_meet
          exact ⟨false, rfl, s, la, HB4.out, HL4.out, HS4.out, HI.out, HU4.out, .inr ⟨rfl, by simpa using HS0.out, rfl⟩⟩
      by_cases h1 : hh = 1
      · subst h1
        clear h0
        by_cases hs0 : s.st k = 1
        · obtain ⟨n, hn, hla, hak⟩ := HI.out.ak k hk hs0
          have HS0 := Lib.hid hs0
          have HN := Lib.hid hn
          have HLA := Lib.hid hla
          have HAK := Lib.hid hak
          clear hs0 hst hn hla hak
          go_wp2_with fail
          refine (take_ok s b k hk HS0.out _ HB.out).mono ?_
          rintro e w3 ⟨rfl, hB3, U3⟩
          rw [HAK.out]
          have HB3 := Lib.hid hB3
          have HL3 := Lib.hid (Blk.upd U3 HL.out (fun h => n1 h.symm))
          have HS3 := Lib.hid (Blk.upd U3 HS.out (fun h => n2 h.symm))
          have HU3 := Lib.hid (by have h := HU.out; ((with_reducible repeat' first | exact Upd.refl _ _ | apply Upd.drew | apply Upd.drewN | apply Upd.alloc | refine Upd.setCell ?_ ?_ | refine Upd.call U3 ?_ ?_ | refine Upd.call h ?_ ?_) <;> first | (intro _ _ h; exact h) | (intro _ _ h; exact h.elim) | (intro i h1 h2; exfalso; (try simp only at h2); omega) | (left; rfl) | (right; dsimp only; omega) | (right; omega)) : Upd Non w w3)
          clear U3 hB3 HB HL HS HU d0 d1
          go_wp2_with (refine wpList_store_row rfl 55 _ _ rfl w3.heap.size (AK.of n).enc rfl rfl 55 AK.no.enc (heap_alloc_new w3 _) (by kernel_rfl) rfl (AK.enc_one _) ?_; rw [World.setRow_alloc_new])
          obtain ⟨b12, hb12⟩ : ∃ x, x = w3.heap.size := ⟨_, rfl⟩
          have f1 : w3.cell? ⟨bl, k, none⟩ = some (.int .i64 n) := by rw [← HLA.out]; exact HL3.out.cell k (enc8_at la hk)
          have hl3 := HL3.out.lt
          have HX3 := Lib.hid (show Blk (w3.alloc (.cells (AK.of n).enc 55)).drew b12 (AK.of n).enc 55 from Blk.drew (Blk.newAt hb12))
          rw [← hb12]
          clear hb12
          refine wp_region_run [0, 1, 3] 6 (by kernel_rfl) rfl (by kernel_rfl) (by kernel_rfl) (fun _ _ d _ _ h => by cases d <;> exact h) (by repeat' first | exact Runs.nil | apply Runs.cons | exact At.head _ _ | apply At.tail) ?_
          go_wp2_with fail
          refine Left.fork (f := 5) [2, 4] (by kernel_rfl) (by simp) rfl ?_
          refine Arms.arm [4, 5, 6, 7, 8] 0 rfl (by kernel_rfl) (by kernel_rfl) (fun _ _ d _ _ h => by cases d <;> exact h) (by repeat' first | exact Runs.nil | apply Runs.cons | exact At.head _ _ | apply At.tail) ?_ (Arms.arm [] 5 rfl (by kernel_rfl) (by kernel_rfl) (fun _ _ d _ _ h => by cases d <;> exact h) (by repeat' first | exact Runs.nil | apply Runs.cons | exact At.head _ _ | apply At.tail) ?_ Arms.none)
          · go_wp2_with (refine wpList_load_rowG (by rfl) 55 _ rfl b12 rfl 55 _ (0, 0) _ HX3.out Try.underlying55 rfl (by kernel_rfl) ?_)
            refine (ask_spec n _).mono ?_
            rintro e w4 ⟨rfl, U4⟩
            have HB4 := Lib.hid (QBlk.upd U4 (QBlk.upd (S := Non) (by ((with_reducible repeat' first | exact Upd.refl _ _ | apply Upd.drew | apply Upd.drewN | apply Upd.alloc | refine Upd.setCell ?_ ?_) <;> first | (intro _ _ h; exact h) | (intro _ _ h; exact h.elim) | (intro i h1 h2; exfalso; (try simp only at h2); omega) | (left; rfl) | (right; dsimp only; omega) | (right; omega))) HB3.out id) id)
            have HL4 := Lib.hid (Blk.upd U4 (by have h := HL3.out; ((with_reducible repeat' first | apply Blk.drew | apply Blk.drewN | apply Blk.alloc | apply Blk.set | refine Blk.set_ne ?_ ?_) <;> first | with_reducible exact h | omega | (dsimp only; omega)) : Blk _ bl (enc8 la) 42) id)
            have HS4 := Lib.hid (Blk.upd U4 (by have h := HS3.out; ((with_reducible repeat' first | apply Blk.drew | apply Blk.drewN | apply Blk.alloc | apply Blk.set | refine Blk.set_ne ?_ ?_) <;> first | with_reducible exact h | omega | (dsimp only; omega)) : Blk _ bs (enc8 s.st) 42) id)
            have HU4 := Lib.hid (by have h := HU3.out; ((with_reducible repeat' first | exact Upd.refl _ _ | apply Upd.drew | apply Upd.drewN | apply Upd.alloc | refine Upd.setCell ?_ ?_ | refine Upd.call U4 ?_ ?_ | refine Upd.call h ?_ ?_) <;> first | (intro _ _ h; exact h) | (intro _ _ h; exact h.elim) | (intro i h1 h2; exfalso; (try simp only at h2); omega) | (left; rfl) | (right; dsimp only; omega) | (right; omega)) : Upd Non w w4)
            have HX4 := Lib.hid (Blk.upd U4 HX3.out id)
            clear U4
            go_wp2_with (first | (refine wpList_same (by rfl) .neq 55 55 _ _ rfl (AK.of n).enc (AK.of n).enc (.bool false) rfl rfl Try.eqGuardType55 (ask_ne (AK.of n) _) ?_))
            refine Left.done (by kernel_rfl) ?_
            go_wp2_with fail
            go_meet
            exact ⟨true, rfl, s.turn k 2, la, HB4.out, HL4.out, HS4.out, HI.out.take k, HU4.out, .inl ⟨rfl, .inr (.inl rfl), HS0.out, rfl⟩⟩
          go_wp2_with fail
          refine Left.fork (f := 4) [2, 5] (by kernel_rfl) (by simp) rfl ?_
          refine Arms.arm [5, 6, 7, 8] 0 rfl (by kernel_rfl) (by kernel_rfl) (fun _ _ d _ _ h => by cases d <;> exact h) (by repeat' first | exact Runs.nil | apply Runs.cons | exact At.head _ _ | apply At.tail) ?_ (Arms.arm [] 4 rfl (by kernel_rfl) (by kernel_rfl) (fun _ _ d _ _ h => by cases d <;> exact h) (by repeat' first | exact Runs.nil | apply Runs.cons | exact At.head _ _ | apply At.tail) ?_ Arms.none)
          · go_wp2_with (refine wpList_load_rowG (by rfl) 55 _ rfl b12 rfl 55 _ (0, 0) _ HX3.out Try.underlying55 rfl (by kernel_rfl) ?_)
            refine (ask_spec n _).mono ?_
            rintro e w4 ⟨rfl, U4⟩
            have HB4 := Lib.hid (QBlk.upd U4 (QBlk.upd (S := Non) (by ((with_reducible repeat' first | exact Upd.refl _ _ | apply Upd.drew | apply Upd.drewN | apply Upd.alloc | refine Upd.setCell ?_ ?_) <;> first | (intro _ _ h; exact h) | (intro _ _ h; exact h.elim) | (intro i h1 h2; exfalso; (try simp only at h2); omega) | (left; rfl) | (right; dsimp only; omega) | (right; omega))) HB3.out id) id)
            have HL4 := Lib.hid (Blk.upd U4 (by have h := HL3.out; ((with_reducible repeat' first | apply Blk.drew | apply Blk.drewN | apply Blk.alloc | apply Blk.set | refine Blk.set_ne ?_ ?_) <;> first | with_reducible exact h | omega | (dsimp only; omega)) : Blk _ bl (enc8 la) 42) id)
            have HS4 := Lib.hid (Blk.upd U4 (by have h := HS3.out; ((with_reducible repeat' first | apply Blk.drew | apply Blk.drewN | apply Blk.alloc | apply Blk.set | refine Blk.set_ne ?_ ?_) <;> first | with_reducible exact h | omega | (dsimp only; omega)) : Blk _ bs (enc8 s.st) 42) id)
            have HU4 := Lib.hid (by have h := HU3.out; ((with_reducible repeat' first | exact Upd.refl _ _ | apply Upd.drew | apply Upd.drewN | apply Upd.alloc | refine Upd.setCell ?_ ?_ | refine Upd.call U4 ?_ ?_ | refine Upd.call h ?_ ?_) <;> first | (intro _ _ h; exact h) | (intro _ _ h; exact h.elim) | (intro i h1 h2; exfalso; (try simp only at h2); omega) | (left; rfl) | (right; dsimp only; omega) | (right; omega)) : Upd Non w w4)
            have HX4 := Lib.hid (Blk.upd U4 HX3.out id)
            clear U4
            go_wp2_with (first | (refine wpList_same (by rfl) .neq 55 55 _ _ rfl (AK.of n).enc (AK.of n).enc (.bool false) rfl rfl Try.eqGuardType55 (ask_ne (AK.of n) _) ?_))
            refine Left.done (by kernel_rfl) ?_
            go_wp2_with fail
            go_meet
            exact ⟨true, rfl, s.turn k 2, la, HB4.out, HL4.out, HS4.out, HI.out.take k, HU4.out, .inl ⟨rfl, .inr (.inl rfl), HS0.out, rfl⟩⟩
          go_wp2_with fail
          refine Left.fork (f := 3) [2, 6] (by kernel_rfl) (by simp) rfl ?_
          refine Arms.arm [6, 7, 8] 0 rfl (by kernel_rfl) (by kernel_rfl) (fun _ _ d _ _ h => by cases d <;> exact h) (by repeat' first | exact Runs.nil | apply Runs.cons | exact At.head _ _ | apply At.tail) ?_ (Arms.arm [2, 7, 8] 0 rfl (by kernel_rfl) (by kernel_rfl) (fun _ _ d _ _ h => by cases d <;> exact h) (by repeat' first | exact Runs.nil | apply Runs.cons | exact At.head _ _ | apply At.tail) ?_ Arms.none)
          · go_wp2_with (refine wpList_load_rowG (by rfl) 55 _ rfl b12 rfl 55 _ (0, 0) _ HX3.out Try.underlying55 rfl (by kernel_rfl) ?_)
            refine (ask_spec n _).mono ?_
            rintro e w4 ⟨rfl, U4⟩
            have HB4 := Lib.hid (QBlk.upd U4 (QBlk.upd (S := Non) (by ((with_reducible repeat' first | exact Upd.refl _ _ | apply Upd.drew | apply Upd.drewN | apply Upd.alloc | refine Upd.setCell ?_ ?_) <;> first | (intro _ _ h; exact h) | (intro _ _ h; exact h.elim) | (intro i h1 h2; exfalso; (try simp only at h2); omega) | (left; rfl) | (right; dsimp only; omega) | (right; omega))) HB3.out id) id)
            have HL4 := Lib.hid (Blk.upd U4 (by have h := HL3.out; ((with_reducible repeat' first | apply Blk.drew | apply Blk.drewN | apply Blk.alloc | apply Blk.set | refine Blk.set_ne ?_ ?_) <;> first | with_reducible exact h | omega | (dsimp only; omega)) : Blk _ bl (enc8 la) 42) id)
            have HS4 := Lib.hid (Blk.upd U4 (by have h := HS3.out; ((with_reducible repeat' first | apply Blk.drew | apply Blk.drewN | apply Blk.alloc | apply Blk.set | refine Blk.set_ne ?_ ?_) <;> first | with_reducible exact h | omega | (dsimp only; omega)) : Blk _ bs (enc8 s.st) 42) id)
            have HU4 := Lib.hid (by have h := HU3.out; ((with_reducible repeat' first | exact Upd.refl _ _ | apply Upd.drew | apply Upd.drewN | apply Upd.alloc | refine Upd.setCell ?_ ?_ | refine Upd.call U4 ?_ ?_ | refine Upd.call h ?_ ?_) <;> first | (intro _ _ h; exact h) | (intro _ _ h; exact h.elim) | (intro i h1 h2; exfalso; (try simp only at h2); omega) | (left; rfl) | (right; dsimp only; omega) | (right; omega)) : Upd Non w w4)
            have HX4 := Lib.hid (Blk.upd U4 HX3.out id)
            clear U4
            go_wp2_with (first | (refine wpList_same (by rfl) .neq 55 55 _ _ rfl (AK.of n).enc (AK.of n).enc (.bool false) rfl rfl Try.eqGuardType55 (ask_ne (AK.of n) _) ?_))
            refine Left.done (by kernel_rfl) ?_
            go_wp2_with fail
            go_meet
            exact ⟨true, rfl, s.turn k 2, la, HB4.out, HL4.out, HS4.out, HI.out.take k, HU4.out, .inl ⟨rfl, .inr (.inl rfl), HS0.out, rfl⟩⟩
          · go_wp2_with fail
            refine (ask_spec n _).mono ?_
            rintro e w4 ⟨rfl, U4⟩
            have HB4 := Lib.hid (QBlk.upd U4 (QBlk.upd (S := Non) (by ((with_reducible repeat' first | exact Upd.refl _ _ | apply Upd.drew | apply Upd.drewN | apply Upd.alloc | refine Upd.setCell ?_ ?_) <;> first | (intro _ _ h; exact h) | (intro _ _ h; exact h.elim) | (intro i h1 h2; exfalso; (try simp only at h2); omega) | (left; rfl) | (right; dsimp only; omega) | (right; omega))) HB3.out id) id)
            have HL4 := Lib.hid (Blk.upd U4 (by have h := HL3.out; ((with_reducible repeat' first | apply Blk.drew | apply Blk.drewN | apply Blk.alloc | apply Blk.set | refine Blk.set_ne ?_ ?_) <;> first | with_reducible exact h | omega | (dsimp only; omega)) : Blk _ bl (enc8 la) 42) id)
            have HS4 := Lib.hid (Blk.upd U4 (by have h := HS3.out; ((with_reducible repeat' first | apply Blk.drew | apply Blk.drewN | apply Blk.alloc | apply Blk.set | refine Blk.set_ne ?_ ?_) <;> first | with_reducible exact h | omega | (dsimp only; omega)) : Blk _ bs (enc8 s.st) 42) id)
            have HU4 := Lib.hid (by have h := HU3.out; ((with_reducible repeat' first | exact Upd.refl _ _ | apply Upd.drew | apply Upd.drewN | apply Upd.alloc | refine Upd.setCell ?_ ?_ | refine Upd.call U4 ?_ ?_ | refine Upd.call h ?_ ?_) <;> first | (intro _ _ h; exact h) | (intro _ _ h; exact h.elim) | (intro i h1 h2; exfalso; (try simp only at h2); omega) | (left; rfl) | (right; dsimp only; omega) | (right; omega)) : Upd Non w w4)
            have HX4 := Lib.hid (Blk.upd U4 HX3.out id)
            clear U4
            go_wp2_with (first | (refine wpList_same (by rfl) .neq 55 55 _ _ rfl (AK.of n).enc (AK.of n).enc (.bool false) rfl rfl Try.eqGuardType55 (ask_ne (AK.of n) _) ?_) | (refine wpList_load_rowG (by rfl) 55 _ rfl b12 rfl 55 _ (0, 0) _ HX4.out Try.underlying55 rfl (by kernel_rfl) ?_))
            refine Left.done (by kernel_rfl) ?_
            go_wp2_with fail
            go_meet
            exact ⟨true, rfl, s.turn k 2, la, HB4.out, HL4.out, HS4.out, HI.out.take k, HU4.out, .inl ⟨rfl, .inr (.inl rfl), HS0.out, rfl⟩⟩
        · have HS0 := Lib.hid hs0
          clear hs0 hst
          go_wp2_with fail
          refine (take_no s b k hk HS0.out _ HB.out).mono ?_
          rintro e w3 ⟨rfl, U3⟩
          have HB3 := Lib.hid (QBlk.upd U3 HB.out id)
          have HL3 := Lib.hid (Blk.upd U3 HL.out id)
          have HS3 := Lib.hid (Blk.upd U3 HS.out id)
          have HU3 := Lib.hid (by have h := HU.out; ((with_reducible repeat' first | exact Upd.refl _ _ | apply Upd.drew | apply Upd.drewN | apply Upd.alloc | refine Upd.setCell ?_ ?_ | refine Upd.call U3 ?_ ?_ | refine Upd.call h ?_ ?_) <;> first | (intro _ _ h; exact h) | (intro _ _ h; exact h.elim) | (intro i h1 h2; exfalso; (try simp only at h2); omega) | (left; rfl) | (right; dsimp only; omega) | (right; omega)) : Upd Non w w3)
          clear U3 HB HL HS HU d0 d1
          go_wp2_with (refine wpList_store_row rfl 55 _ _ rfl w3.heap.size AK.no.enc rfl rfl 55 AK.no.enc (heap_alloc_new w3 _) (by kernel_rfl) rfl (AK.enc_one _) ?_; rw [World.setRow_alloc_new])
          go_region
          go_wp2_with fail
          go_meet
          exact ⟨false, rfl, s, la, QBlk.upd (S := Non) (by ((with_reducible repeat' first | exact Upd.refl _ _ | apply Upd.drew | apply Upd.drewN | apply Upd.alloc | refine Upd.setCell ?_ ?_) <;> first | (intro _ _ h; exact h) | (intro _ _ h; exact h.elim) | (intro i h1 h2; exfalso; (try simp only at h2); omega) | (left; rfl) | (right; dsimp only; omega) | (right; omega))) HB3.out id, by have h := HL3.out; ((with_reducible repeat' first | apply Blk.drew | apply Blk.drewN | apply Blk.alloc | apply Blk.set | refine Blk.set_ne ?_ ?_) <;> first | with_reducible exact h | omega | (dsimp only; omega)), by have h := HS3.out; ((with_reducible repeat' first | apply Blk.drew | apply Blk.drewN | apply Blk.alloc | apply Blk.set | refine Blk.set_ne ?_ ?_) <;> first | with_reducible exact h | omega | (dsimp only; omega)), HI.out, by have h := HU3.out; ((with_reducible repeat' first | exact Upd.refl _ _ | apply Upd.drew | apply Upd.drewN | apply Upd.alloc | refine Upd.setCell ?_ ?_ | refine Upd.call h ?_ ?_) <;> first | (intro _ _ h; exact h) | (intro _ _ h; exact h.elim) | (intro i h1 h2; exfalso; (try simp only at h2); omega) | (left; rfl) | (right; dsimp only; omega) | (right; omega)), .inr ⟨rfl, by simpa using HS0.out, rfl⟩⟩
      by_cases h2 : hh = 2
      · subst h2
        clear h0 h1
        by_cases hs0 : s.st k = 2
        · have HS0 := Lib.hid hs0
          clear hs0 hst
          go_wp2_with fail
          refine (back_ok s b k hk HS0.out _ HB.out).mono ?_
          rintro e w3 ⟨rfl, hB3, U3⟩
          have HL3 := Lib.hid (Blk.upd U3 HL.out (fun h => n1 h.symm))
          have HS3 := Lib.hid (Blk.upd U3 HS.out (fun h => n2 h.symm))
          have HU3 := Lib.hid (by have h := HU.out; ((with_reducible repeat' first | exact Upd.refl _ _ | apply Upd.drew | apply Upd.drewN | apply Upd.alloc | refine Upd.setCell ?_ ?_ | refine Upd.call U3 ?_ ?_ | refine Upd.call h ?_ ?_) <;> first | (intro _ _ h; exact h) | (intro _ _ h; exact h.elim) | (intro i h1 h2; exfalso; (try simp only at h2); omega) | (left; rfl) | (right; dsimp only; omega) | (right; omega)) : Upd Non w w3)
          have HB3 := Lib.hid hB3
          clear U3 hB3 HB HL HS HU d0 d1
          go_wp2_with fail
          go_meet
          exact ⟨true, rfl, s.set k 0 AK.no, la, HB3.out, HL3.out, HS3.out, HI.out.back k, HU3.out, .inl ⟨rfl, .inr (.inr rfl), HS0.out, rfl⟩⟩
        · have HS0 := Lib.hid hs0
          clear hs0 hst
          go_wp2_with fail
          refine (back_no s b k hk HS0.out _ HB.out).mono ?_
          rintro e w3 ⟨rfl, U3⟩
          have HB3 := Lib.hid (QBlk.upd U3 HB.out id)
          have HL3 := Lib.hid (Blk.upd U3 HL.out id)
          have HS3 := Lib.hid (Blk.upd U3 HS.out id)
          have HU3 := Lib.hid (by have h := HU.out; ((with_reducible repeat' first | exact Upd.refl _ _ | apply Upd.drew | apply Upd.drewN | apply Upd.alloc | refine Upd.setCell ?_ ?_ | refine Upd.call U3 ?_ ?_ | refine Upd.call h ?_ ?_) <;> first | (intro _ _ h; exact h) | (intro _ _ h; exact h.elim) | (intro i h1 h2; exfalso; (try simp only at h2); omega) | (left; rfl) | (right; dsimp only; omega) | (right; omega)) : Upd Non w w3)
          clear U3 HB HL HS HU d0 d1
          go_wp2_with fail
          go_meet
          exact ⟨false, rfl, s, la, HB3.out, HL3.out, HS3.out, HI.out, HU3.out, .inr ⟨rfl, by simpa using HS0.out, rfl⟩⟩
      have e0 : (hh == 0) = false := by simpa using h0
      have e1 : (hh == 1) = false := by simpa using h1
      have e2 : (hh == 2) = false := by simpa using h2
      clear h0 h1 h2 hst
      go_wp2_with fail
      go_roundw
      case rel => exact ⟨t + 1, s, la, by omega, by go_num, HB.out, HL.out, HS.out, HI.out, HU.out⟩
      case measure => simp [intOf]; omega
    case rest =>
      obtain ⟨d, rfl, hE⟩ := hcut
      clear HB HL HS HI HU d0 d1 hst
      obtain ⟨s2, la2, hB, hL, hS, hI, hU, hE⟩ := hE
      have HB := Lib.hid hB
      have HL := Lib.hid hL
      have HS := Lib.hid hS
      have HI := Lib.hid hI
      have HU := Lib.hid hU
      have d0 := hU.cell_eq id CE.out.1
      have f0 := hS.frozen k
      have hsl := hS.lt
      have f1 := hS.cell k (enc8_at s.st hk)
      clear hB hL hS hI hU
      rcases hE with ⟨rfl, hv, hst, hs2⟩ | ⟨rfl, hst, hs2⟩
      · rw [hst] at f1
        have HS2 := Lib.hid hs2
        clear hst hs2
        rcases hv with rfl | rfl | rfl
        · go_wp2_with fail
          go_region
          go_wp2_with fail
          have hv2 : s2.st k = 1 := by rw [HS2.out]; exact if_pos rfl
          have HV2 := Lib.hid hv2
          clear hv2
          have HB5 := Lib.hid (show QBlk (wc.setCell ⟨bs, k, none⟩ (.int .i64 1)) b s2 from Blk.set_ne HB.out n2)
          go_region_with (go_at_call 34; refine (state_at s2 b k 1 hk HV2.out _ (QBlk.upd (S := Non) (by ((with_reducible repeat' first | exact Upd.refl _ _ | apply Upd.drew | apply Upd.drewN | apply Upd.alloc | refine Upd.setCell ?_ ?_) <;> first | (intro _ _ h; exact h) | (intro _ _ h; exact h.elim) | (intro i h1 h2; exfalso; (try simp only at h2); omega) | (left; rfl) | (right; dsimp only; omega) | (right; omega))) HB5.out id)).mono ?_; rintro e w5 ⟨rfl, rfl⟩)
          all_goals
            go_wp2_with fail
            go_roundw
            case rel => exact ⟨t + 1, s2, la2, by omega, by go_num, by have h := HB.out.blk; exact (show Blk _ b _ 133 by ((with_reducible repeat' first | apply Blk.drew | apply Blk.drewN | apply Blk.alloc | apply Blk.set | refine Blk.set_ne ?_ ?_) <;> first | with_reducible exact h | omega | (dsimp only; omega))), by have h := HL.out; ((with_reducible repeat' first | apply Blk.drew | apply Blk.drewN | apply Blk.alloc | apply Blk.set | refine Blk.set_ne ?_ ?_) <;> first | with_reducible exact h | omega | (dsimp only; omega)), by have h := Blk.set8 HS.out hk 1; rw [HS2.out]; exact h, HI.out, by have h := HU.out; ((with_reducible repeat' first | exact Upd.refl _ _ | apply Upd.drew | apply Upd.drewN | apply Upd.alloc | refine Upd.setCell ?_ ?_ | refine Upd.call h ?_ ?_) <;> first | (intro _ _ h; exact h) | (intro _ _ h; exact h.elim) | (intro i h1 h2; exfalso; (try simp only at h2); omega) | (left; rfl) | (right; dsimp only; omega) | (right; omega))⟩
            case measure => simp [intOf]; omega
        · go_wp2_with fail
          go_region
          go_wp2_with fail
          have hv2 : s2.st k = 2 := by rw [HS2.out]; exact if_pos rfl
          have HV2 := Lib.hid hv2
          clear hv2
          have HB5 := Lib.hid (show QBlk (wc.setCell ⟨bs, k, none⟩ (.int .i64 2)) b s2 from Blk.set_ne HB.out n2)
          go_region_with (go_at_call 34; refine (state_at s2 b k 2 hk HV2.out _ (QBlk.upd (S := Non) (by ((with_reducible repeat' first | exact Upd.refl _ _ | apply Upd.drew | apply Upd.drewN | apply Upd.alloc | refine Upd.setCell ?_ ?_) <;> first | (intro _ _ h; exact h) | (intro _ _ h; exact h.elim) | (intro i h1 h2; exfalso; (try simp only at h2); omega) | (left; rfl) | (right; dsimp only; omega) | (right; omega))) HB5.out id)).mono ?_; rintro e w5 ⟨rfl, rfl⟩)
          all_goals
            go_wp2_with fail
            go_roundw
            case rel => exact ⟨t + 1, s2, la2, by omega, by go_num, by have h := HB.out.blk; exact (show Blk _ b _ 133 by ((with_reducible repeat' first | apply Blk.drew | apply Blk.drewN | apply Blk.alloc | apply Blk.set | refine Blk.set_ne ?_ ?_) <;> first | with_reducible exact h | omega | (dsimp only; omega))), by have h := HL.out; ((with_reducible repeat' first | apply Blk.drew | apply Blk.drewN | apply Blk.alloc | apply Blk.set | refine Blk.set_ne ?_ ?_) <;> first | with_reducible exact h | omega | (dsimp only; omega)), by have h := Blk.set8 HS.out hk 2; rw [HS2.out]; exact h, HI.out, by have h := HU.out; ((with_reducible repeat' first | exact Upd.refl _ _ | apply Upd.drew | apply Upd.drewN | apply Upd.alloc | refine Upd.setCell ?_ ?_ | refine Upd.call h ?_ ?_) <;> first | (intro _ _ h; exact h) | (intro _ _ h; exact h.elim) | (intro i h1 h2; exfalso; (try simp only at h2); omega) | (left; rfl) | (right; dsimp only; omega) | (right; omega))⟩
            case measure => simp [intOf]; omega
        · go_wp2_with fail
          go_region
          go_wp2_with fail
          have hv2 : s2.st k = 0 := by rw [HS2.out]; exact if_pos rfl
          have HV2 := Lib.hid hv2
          clear hv2
          have HB5 := Lib.hid (show QBlk (wc.setCell ⟨bs, k, none⟩ (.int .i64 0)) b s2 from Blk.set_ne HB.out n2)
          go_region_with (go_at_call 34; refine (state_at s2 b k 0 hk HV2.out _ (QBlk.upd (S := Non) (by ((with_reducible repeat' first | exact Upd.refl _ _ | apply Upd.drew | apply Upd.drewN | apply Upd.alloc | refine Upd.setCell ?_ ?_) <;> first | (intro _ _ h; exact h) | (intro _ _ h; exact h.elim) | (intro i h1 h2; exfalso; (try simp only at h2); omega) | (left; rfl) | (right; dsimp only; omega) | (right; omega))) HB5.out id)).mono ?_; rintro e w5 ⟨rfl, rfl⟩)
          all_goals
            go_wp2_with fail
            go_roundw
            case rel => exact ⟨t + 1, s2, la2, by omega, by go_num, by have h := HB.out.blk; exact (show Blk _ b _ 133 by ((with_reducible repeat' first | apply Blk.drew | apply Blk.drewN | apply Blk.alloc | apply Blk.set | refine Blk.set_ne ?_ ?_) <;> first | with_reducible exact h | omega | (dsimp only; omega))), by have h := HL.out; ((with_reducible repeat' first | apply Blk.drew | apply Blk.drewN | apply Blk.alloc | apply Blk.set | refine Blk.set_ne ?_ ?_) <;> first | with_reducible exact h | omega | (dsimp only; omega)), by have h := Blk.set8 HS.out hk 0; rw [HS2.out]; exact h, HI.out, by have h := HU.out; ((with_reducible repeat' first | exact Upd.refl _ _ | apply Upd.drew | apply Upd.drewN | apply Upd.alloc | refine Upd.setCell ?_ ?_ | refine Upd.call h ?_ ?_) <;> first | (intro _ _ h; exact h) | (intro _ _ h; exact h.elim) | (intro i h1 h2; exfalso; (try simp only at h2); omega) | (left; rfl) | (right; dsimp only; omega) | (right; omega))⟩
            case measure => simp [intOf]; omega
      · have HS2 := Lib.hid hs2
        clear hs2
        have hne : (s.st k != s.st k) = false := by simp
        go_wp2_with fail
        go_region
        go_wp2_with fail
        have hv2 : s2.st k = s.st k := by rw [HS2.out]
        have HV2 := Lib.hid hv2
        clear hv2
        go_region_with (go_at_call 34; refine (state_at s2 b k (s.st k) hk HV2.out _ (QBlk.upd (S := Non) (by ((with_reducible repeat' first | exact Upd.refl _ _ | apply Upd.drew | apply Upd.drewN | apply Upd.alloc | refine Upd.setCell ?_ ?_) <;> first | (intro _ _ h; exact h) | (intro _ _ h; exact h.elim) | (intro i h1 h2; exfalso; (try simp only at h2); omega) | (left; rfl) | (right; dsimp only; omega) | (right; omega))) HB.out id)).mono ?_; rintro e w5 ⟨rfl, rfl⟩)
        all_goals
          go_wp2_with fail
          go_roundw
          case rel => exact ⟨t + 1, s2, la2, by omega, by go_num, by have h := HB.out.blk; exact (show Blk _ b _ 133 by ((with_reducible repeat' first | apply Blk.drew | apply Blk.drewN | apply Blk.alloc | apply Blk.set | refine Blk.set_ne ?_ ?_) <;> first | with_reducible exact h | omega | (dsimp only; omega))), by have h := HL.out; ((with_reducible repeat' first | apply Blk.drew | apply Blk.drewN | apply Blk.alloc | apply Blk.set | refine Blk.set_ne ?_ ?_) <;> first | with_reducible exact h | omega | (dsimp only; omega)), by have h := HS.out; rw [HS2.out]; ((with_reducible repeat' first | apply Blk.drew | apply Blk.drewN | apply Blk.alloc | apply Blk.set | refine Blk.set_ne ?_ ?_) <;> first | with_reducible exact h | omega | (dsimp only; omega)), HI.out, by have h := HU.out; ((with_reducible repeat' first | exact Upd.refl _ _ | apply Upd.drew | apply Upd.drewN | apply Upd.alloc | refine Upd.setCell ?_ ?_ | refine Upd.call h ?_ ?_) <;> first | (intro _ _ h; exact h) | (intro _ _ h; exact h.elim) | (intro i h1 h2; exfalso; (try simp only at h2); omega) | (left; rfl) | (right; dsimp only; omega) | (right; omega))⟩
          case measure => simp [intOf]; omega

theorem one_law (A : Option Addr) (N cc : Nat) (H K : Nat → Int) (w : World)
    (hd : 0 < N → ∃ b o, A = some ⟨b, o, none⟩ ∧ ∀ j, j < N → w.cell? ⟨b, o + j * 2, none⟩ = some (.int .i64 (H j)) ∧ w.cell? ⟨b, o + j * 2 + 1, none⟩ = some (.int .i64 (K j))) :
    Calls Try.prog 5 #[.slice A N cc] w fun e w' => e = .returned (.bool true) ∧ Upd Non w w' := by
  by_cases h : 300 < N
  · exact one_long A N cc h w
  · exact one_some A N cc H K (by omega) w hd
end Go.Proofs.Ytmblplhehbdocaa
