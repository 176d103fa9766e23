/- The ports' All: what a range over it comes to. Conditions: the ports are ones whose block is known. -/
import Derived.Test.YtmblplhehbdocaaPortRef
import Derived.Test.YtmblplhehbdocaaGrow
import Derived.Test.YtmblplhehbdocaaWaysIn
import Derived.Deep.Cut
import Derived.Deep.CutBlock
namespace Go.Proofs.Ytmblplhehbdocaa
open Go.RowKit Go.Shelf
attribute [local go_sem] Oper.semAt_some

theorem postM_end1 {P : Program} {fn : Func} {R : Ending → World → Prop} {a : Act} {w : World} {v : Value} {D : Nat} (hr : ∀ w', Upd (fun i => i = D) w w' → (results fn a.tmps).run P w' = .ok v w') (hd : a.defers = [{ target := .collected D, args := #[] }])
    (hk : w.heap[D]? = some (.deferred (some []))) (hR : ∀ w', Upd (fun i => i = D) w w' → R (.returned v) w') : postM P fn R .normal a w :=
  .inr ⟨D, hd, hk, v, hr _ (upd_putObj _ _ _), hR _ (upd_putObj _ _ _)⟩
theorem state_eq (s : QS) (b k : Nat) (v : Int) (hk : k < 8) (hv : s.st k = v) (w : World) (hb : QBlk w b s) :
    Calls Try.prog 34 #[.pointer (some ⟨b, 0, none⟩), .int .i64 k] w fun e w' => e = .returned (.int .i64 v) ∧ w = w' := by
  rw [← hv]; exact state_spec s b k hk w hb
theorem allp_spec (b : Nat) (w : World) : Calls Try.prog 61 #[.pointer (some ⟨b, 0, none⟩)] w fun e w' => e = .returned (.func (.func 91) #[] #[.pointer (some ⟨w.heap.size, 0, none⟩)]) ∧ w' = w.alloc (.cells #[.pointer (some ⟨b, 0, none⟩)] 40) := by
  go_enter Try.func61, Try.ntmps61
  go_wp2
  go_ret
  exact ⟨rfl, rfl⟩
theorem worlds_spec (w : World) : Calls Try.prog 92 #[] w fun e w' => e = .returned (.func (.func 94) #[] #[]) ∧ w = w' := by
  go_enter Try.func92, Try.ntmps92
  go_wp2
  go_ret
  exact ⟨rfl, rfl⟩
theorem worlds_run {l : Nat} (W : World) (J : Nat → World → Prop) (Jx : World → Prop) (h0 : J 0 W)
    (hY : ∀ t W', t < 8 → J t W' → YieldAt Fence.wide 3 Try.prog l #[.int .i64 t] W' fun e W2 => (e = .returned (.bool true) ∧ J (t + 1) W2) ∨ (e = .returned (.bool false) ∧ Jx W2)) :
    Calls Try.prog 94 #[.func (.yield l) #[] #[]] W fun e W' => e = .returned (.tuple #[]) ∧ (J 8 W' ∨ Jx W') := by
  have HJ := Lib.hid h0
  clear h0
  go_enter Try.func94, Try.ntmps94
  go_wp2_with fail
  go_loopw [3] (fun i wr => ∃ t : Nat, t ≤ 8 ∧ i = .int .i64 t ∧ J t wr) (fun i _ => 8 - (intOf i).toNat)
  case atStart => exact ⟨0, Nat.zero_le _, rfl, HJ.out⟩
  case round =>
    clear HJ
    obtain ⟨t, ht, rfl, hJ⟩ := hrel
    have HJ := Lib.hid hJ
    clear hJ
    by_cases hlt : t < 8
    · have k1 : (t : Int) < 8 := by omega
      obtain ⟨fn, tmps, assign, body, hy, hR⟩ := hY t wr hlt HJ.out
      have HR := Lib.hid hR
      clear hR hlt
      go_upto_region 3 with fail
      refine (wpIn_wide (n := 4)).1 ?_
      gi_wp2
      refine HR.out.mono ?_
      rintro e W3 (⟨rfl, hJ3⟩ | ⟨rfl, hJ3⟩)
      · have HJ3 := Lib.hid hJ3
        clear hJ3 HJ HR
        gi_wp2
        go_wp2_with fail
        go_roundw
        case rel => exact ⟨t + 1, by omega, by go_num, HJ3.out⟩
        case measure => simp [intOf]; omega
      · have HJ3 := Lib.hid hJ3
        clear hJ3 HJ HR
        gi_wp2
        go_wp2_with fail
        refine bodyPost_ret (results_none rfl _ _ _) rfl ?_
        exact ⟨rfl, .inr HJ3.out⟩
    · have k1 : ¬ (t : Int) < 8 := by omega
      obtain rfl : t = 8 := by omega
      go_wp2_with fail
      go_end0
      exact ⟨rfl, .inl HJ.out⟩

set_option maxRecDepth 100000 in
set_option maxHeartbeats 8000000 in
theorem allp_run {b l bx : Nat} {s : QS} (W : World) (J : Nat → Nat → Nat → World → Prop) (Jx : Nat → Nat → World → Prop)
    (h0 : ∀ b2 D W', Upd Non W W' → W.heap.size ≤ b2 → b2 < D → D + 2 ≤ W'.heap.size → W'.cell? ⟨b2, 0, none⟩ = some (.func (.yield l) #[] #[]) → J b2 D 0 W')
    (hbx : ∀ b2 D t W', J b2 D t W' → W'.cell? ⟨bx, 0, none⟩ = some (.pointer (some ⟨b, 0, none⟩)) ∧ W'.cell? ⟨b2, 0, none⟩ = some (.func (.yield l) #[] #[]) ∧ QBlk W' b s)
    (hup : ∀ b2 D t W' W'', J b2 D t W' → Upd (fun i => i = D ∨ i = D + 1) W' W'' → J b2 D t W'')
    (hupx : ∀ b2 D W' W'', Jx b2 D W' → Upd (fun i => i = D ∨ i = D + 1) W' W'' → Jx b2 D W'')
    (hskip : ∀ b2 D t W', t < 8 → s.st t ≠ 1 → J b2 D t W' → J b2 D (t + 1) W')
    (hY : ∀ b2 D t W', t < 8 → s.st t = 1 → J b2 D t W' → YieldAt Fence.wide 2 Try.prog l #[.int .i64 t, .agg (s.ak t).enc] W' fun e W2 => Upd (fun i => i ≠ D ∧ i ≠ D + 1) W' W2 ∧ ((e = .returned (.bool true) ∧ J b2 D (t + 1) W2) ∨ (e = .returned (.bool false) ∧ Jx b2 D W2))) :
    Calls Try.prog 91 #[.func (.yield l) #[] #[], .pointer (some ⟨bx, 0, none⟩)] W fun e W' => e = .returned (.tuple #[]) ∧ ((∃ b2 D, J b2 D 8 W') ∨ ∃ b2 D, Jx b2 D W') := by
  refine calls_of_wp_range Try.func91 rfl ?_
  simp only [Try.ntmps91, List.size_toArray, List.length_cons, List.length_nil, Nat.reduceAdd, Nat.reduceSub, Array.replicate_succ, Array.replicate_zero, List.push_toArray, List.append_toArray, List.nil_append, List.cons_append]
  go_wp2_with fail
  refine (worlds_spec _).mono ?_
  rintro e w1 ⟨rfl, hw1⟩
  obtain ⟨b2, hb2⟩ : ∃ x, x = W.heap.size := ⟨_, rfl⟩
  rw [← hb2]
  have hC2 : w1.cell? ⟨b2, 0, none⟩ = some (.func (.yield l) #[] #[]) := by
    have : Blk w1 b2 #[.func (.yield l) #[] #[]] 151 := by rw [← hw1]; exact Blk.newAt hb2
    exact this.cell 0 rfl
  have hU : Upd Non W w1 := by rw [← hw1]; ((with_reducible repeat' first | exact Upd.refl _ _ | apply Upd.drew | apply Upd.drewN | apply Upd.alloc | refine Upd.setCell ?_ ?_) <;> first | (intro _ _ h; exact h) | (intro _ _ h; exact h.elim) | (intro i h1 h2; exfalso; (try simp only at h2); omega) | (left; rfl) | (right; dsimp only; omega) | (right; omega))
  have hz1 : w1.heap.size = b2 + 1 := by rw [← hw1, World.size_alloc, hb2]
  clear hw1
  have HC2 := Lib.hid hC2
  have HU := Lib.hid hU
  have HZ := Lib.hid hz1
  have HB2 := Lib.hid hb2
  clear hC2 hU hz1 hb2
  go_wp2_with fail
  refine wp_range (gf := 94) (lb := #[]) rfl (enters_of Try.func94 (by kernel_rfl) rfl) ?_
  intro fn rec hrec W1 hL hU1 hz
  obtain ⟨D, hD⟩ : ∃ D, D = w1.heap.size := ⟨_, rfl⟩
  rw [← hD] at hrec hL hz ⊢
  have HREC := Lib.hid hrec
  have hcon : b2 < D ∧ W.heap.size ≤ b2 ∧ D + 2 ≤ W1.heap.size := by
    have hd1 := HZ.out
    have hd2 := HB2.out
    omega
  clear hrec hD hz HZ HB2
  refine Calls.mono (R := fun e W' => e = .returned (.tuple #[]) ∧ ((LoopAt (rec .ready none) D W' ∧ J b2 D 8 W') ∨ (LoopAt (rec .done (some .ret)) D W' ∧ Jx b2 D W'))) (worlds_run W1 (fun t W' => LoopAt (rec .ready none) D W' ∧ J b2 D t W') (fun W' => LoopAt (rec .done (some .ret)) D W' ∧ Jx b2 D W') ?h0 ?hY) ?hend
  case h0 =>
    have h1 := HU.out
    refine ⟨hL, h0 b2 D W1 (by ((with_reducible repeat' first | exact Upd.refl _ _ | apply Upd.drew | apply Upd.drewN | apply Upd.alloc | refine Upd.setCell ?_ ?_ | refine Upd.call hU1 ?_ ?_ | refine Upd.call h1 ?_ ?_) <;> first | (intro _ _ h; exact h) | (intro _ _ h; exact h.elim) | (intro i h1 h2; exfalso; (try simp only at h2); omega) | (left; rfl) | (right; dsimp only; omega) | (right; omega))) (by omega) (by omega) (by omega) (hU1.cell_eq id HC2.out)⟩
  case hY =>
    rintro t W' ht ⟨hL', hJ⟩
    refine yield_at HREC.out hL' rfl ?_
    gi_wp2
    refine ⟨rfl, fun W2 hU2 hL2 => ?_⟩
    have hJ2 := hup _ _ _ _ _ hJ (hU2.mono fun i _ h => .inr h)
    obtain ⟨x1, x2, x3⟩ := hbx _ _ _ _ hJ2
    have HJ2 := Lib.hid hJ2
    have HL2 := Lib.hid hL2
    have HQ := Lib.hid x3
    clear hJ hJ2 hL' hU2 hL x3 hU1 hL2
    by_cases hs : s.st t = 1
    · have heq : (s.st t == 1) = true := by simpa using hs
      have hyes : ({ tmps := #[], defers := [] } : Act) = { tmps := #[], defers := [] } := rfl
      clear hyes
      have k1 : (t : Int) < 8 := by omega
      have k2 : ¬ (t : Int) < 0 := by omega
      obtain ⟨fn5, tmps5, assign5, body5, hy, hR⟩ := hY b2 D t W2.drew ht hs (hup _ _ _ _ _ HJ2.out (Upd.refl _ _).drew)
      have HR := Lib.hid hR
      have HS := Lib.hid hs
      have HRG := Lib.hid (QS.range s b t ht HQ.out)
      clear hR hs heq
      gi_wp2
      refine round_region_run [1, 0, 2, 3, 4, 6, 8] 11 rfl (by kernel_rfl) rfl (by kernel_rfl) (by kernel_rfl) (fun _ _ d _ _ h => by cases d <;> exact h) (by repeat' first | exact Runs.nil | apply Runs.cons | exact At.head _ _ | apply At.tail) ?_
      gi_wp2_with fail
      refine ⟨trivial, callsIn_wide.2 ((state_eq s b t 1 ht HS.out _ (QBlk.upd (S := Non) (by ((with_reducible repeat' first | exact Upd.refl _ _ | apply Upd.drew | apply Upd.drewN | apply Upd.alloc | refine Upd.setCell ?_ ?_) <;> first | (intro _ _ h; exact h) | (intro _ _ h; exact h.elim) | (intro i h1 h2; exfalso; (try simp only at h2); omega) | (left; rfl) | (right; dsimp only; omega) | (right; omega))) HQ.out id)).mono ?_)⟩
      rintro e w5 ⟨rfl, rfl⟩
      gi_wp2_with fail
      refine LeftIn.fork (f := 10) [5, 7] (by kernel_rfl) (by simp) rfl ?_
      refine ArmsIn.arm [7, 9, 10, 11, 12, 13, 14, 15, 16, 17] 0 rfl (by kernel_rfl) (by kernel_rfl) (fun _ _ d _ _ h => by cases d <;> exact h) (by repeat' first | exact Runs.nil | apply Runs.cons | exact At.head _ _ | apply At.tail) ?_ ?_
      · gi_wp2_with (first | (refine wpListIn_load_midG (by rfl) 55 _ rfl b (t * 20 + 1) rfl (s.ak t).enc.toList _ HRG.out Try.underlying55 rfl (by kernel_rfl) ?_))
        refine HR.out.mono ?_
        rintro e W3 ⟨U3, ⟨rfl, hJ3⟩ | ⟨rfl, hJ3⟩⟩
        · have HX := Lib.hid (And.intro U3 hJ3)
          clear U3 hJ3
          gi_wp2_with fail
          refine LeftIn.done (by kernel_rfl) ?_
          gi_wp2
          have hL3 := LoopAt.upd (W := W2.drew) HX.out.1 ⟨HL2.out.l, HL2.out.d⟩ (fun h => h.1 rfl) (fun h => h.2 rfl)
          exact ⟨hL3, fun W4 hU4 hL4 => .inl ⟨rfl, hL4, hup _ _ _ _ _ HX.out.2 (hU4.mono fun i _ h => .inr h)⟩⟩
        · have HX := Lib.hid (And.intro U3 hJ3)
          clear U3 hJ3
          gi_wp2_with fail
          refine LeftIn.done (by kernel_rfl) ?_
          gi_wp2
          have hL3 := LoopAt.upd (W := W2.drew) HX.out.1 ⟨HL2.out.l, HL2.out.d⟩ (fun h => h.1 rfl) (fun h => h.2 rfl)
          exact ⟨hL3, fun W4 hU4 hL4 => .inr ⟨rfl, hL4, hupx _ _ _ _ HX.out.2 (hU4.mono fun i _ h => .inr h)⟩⟩
      refine ArmsIn.arm [] 10 rfl (by kernel_rfl) (by kernel_rfl) (fun _ _ d _ _ h => by cases d <;> exact h) (by repeat' first | exact Runs.nil | apply Runs.cons | exact At.head _ _ | apply At.tail) ?_ ArmsIn.none
      gi_wp2_with (first | (refine wpListIn_load_midG (by rfl) 55 _ rfl b (t * 20 + 1) rfl (s.ak t).enc.toList _ HRG.out Try.underlying55 rfl (by kernel_rfl) ?_))
      refine LeftIn.fork (f := 9) [5, 9] (by kernel_rfl) (by simp) rfl ?_
      refine ArmsIn.arm [9, 10, 11, 12, 13, 14, 15, 16, 17] 0 rfl (by kernel_rfl) (by kernel_rfl) (fun _ _ d _ _ h => by cases d <;> exact h) (by repeat' first | exact Runs.nil | apply Runs.cons | exact At.head _ _ | apply At.tail) ?_ ?_
      · gi_wp2_with (first | (refine wpListIn_load_midG (by rfl) 55 _ rfl b (t * 20 + 1) rfl (s.ak t).enc.toList _ HRG.out Try.underlying55 rfl (by kernel_rfl) ?_))
        refine HR.out.mono ?_
        rintro e W3 ⟨U3, ⟨rfl, hJ3⟩ | ⟨rfl, hJ3⟩⟩
        · have HX := Lib.hid (And.intro U3 hJ3)
          clear U3 hJ3
          gi_wp2_with fail
          refine LeftIn.done (by kernel_rfl) ?_
          gi_wp2
          have hL3 := LoopAt.upd (W := W2.drew) HX.out.1 ⟨HL2.out.l, HL2.out.d⟩ (fun h => h.1 rfl) (fun h => h.2 rfl)
          exact ⟨hL3, fun W4 hU4 hL4 => .inl ⟨rfl, hL4, hup _ _ _ _ _ HX.out.2 (hU4.mono fun i _ h => .inr h)⟩⟩
        · have HX := Lib.hid (And.intro U3 hJ3)
          clear U3 hJ3
          gi_wp2_with fail
          refine LeftIn.done (by kernel_rfl) ?_
          gi_wp2
          have hL3 := LoopAt.upd (W := W2.drew) HX.out.1 ⟨HL2.out.l, HL2.out.d⟩ (fun h => h.1 rfl) (fun h => h.2 rfl)
          exact ⟨hL3, fun W4 hU4 hL4 => .inr ⟨rfl, hL4, hupx _ _ _ _ HX.out.2 (hU4.mono fun i _ h => .inr h)⟩⟩
      refine ArmsIn.arm [] 9 rfl (by kernel_rfl) (by kernel_rfl) (fun _ _ d _ _ h => by cases d <;> exact h) (by repeat' first | exact Runs.nil | apply Runs.cons | exact At.head _ _ | apply At.tail) ?_ ArmsIn.none
      gi_wp2_with (first | (refine wpListIn_load_midG (by rfl) 55 _ rfl b (t * 20 + 1) rfl (s.ak t).enc.toList _ HRG.out Try.underlying55 rfl (by kernel_rfl) ?_))
      refine LeftIn.fork (f := 8) [5, 10] (by kernel_rfl) (by simp) rfl ?_
      refine ArmsIn.arm [10, 11, 12, 13, 14, 15, 16, 17] 0 rfl (by kernel_rfl) (by kernel_rfl) (fun _ _ d _ _ h => by cases d <;> exact h) (by repeat' first | exact Runs.nil | apply Runs.cons | exact At.head _ _ | apply At.tail) ?_ ?_
      · gi_wp2_with (first | (refine wpListIn_load_midG (by rfl) 55 _ rfl b (t * 20 + 1) rfl (s.ak t).enc.toList _ HRG.out Try.underlying55 rfl (by kernel_rfl) ?_))
        refine HR.out.mono ?_
        rintro e W3 ⟨U3, ⟨rfl, hJ3⟩ | ⟨rfl, hJ3⟩⟩
        · have HX := Lib.hid (And.intro U3 hJ3)
          clear U3 hJ3
          gi_wp2_with fail
          refine LeftIn.done (by kernel_rfl) ?_
          gi_wp2
          have hL3 := LoopAt.upd (W := W2.drew) HX.out.1 ⟨HL2.out.l, HL2.out.d⟩ (fun h => h.1 rfl) (fun h => h.2 rfl)
          exact ⟨hL3, fun W4 hU4 hL4 => .inl ⟨rfl, hL4, hup _ _ _ _ _ HX.out.2 (hU4.mono fun i _ h => .inr h)⟩⟩
        · have HX := Lib.hid (And.intro U3 hJ3)
          clear U3 hJ3
          gi_wp2_with fail
          refine LeftIn.done (by kernel_rfl) ?_
          gi_wp2
          have hL3 := LoopAt.upd (W := W2.drew) HX.out.1 ⟨HL2.out.l, HL2.out.d⟩ (fun h => h.1 rfl) (fun h => h.2 rfl)
          exact ⟨hL3, fun W4 hU4 hL4 => .inr ⟨rfl, hL4, hupx _ _ _ _ HX.out.2 (hU4.mono fun i _ h => .inr h)⟩⟩
      refine ArmsIn.arm [] 8 rfl (by kernel_rfl) (by kernel_rfl) (fun _ _ d _ _ h => by cases d <;> exact h) (by repeat' first | exact Runs.nil | apply Runs.cons | exact At.head _ _ | apply At.tail) ?_ ArmsIn.none
      gi_wp2_with (first | (refine wpListIn_load_midG (by rfl) 55 _ rfl b (t * 20 + 1) rfl (s.ak t).enc.toList _ HRG.out Try.underlying55 rfl (by kernel_rfl) ?_))
      refine LeftIn.fork (f := 7) [5, 11] (by kernel_rfl) (by simp) rfl ?_
      refine ArmsIn.arm [11, 12, 13, 14, 15, 16, 17] 0 rfl (by kernel_rfl) (by kernel_rfl) (fun _ _ d _ _ h => by cases d <;> exact h) (by repeat' first | exact Runs.nil | apply Runs.cons | exact At.head _ _ | apply At.tail) ?_ ?_
      · gi_wp2_with (first | (refine wpListIn_load_midG (by rfl) 55 _ rfl b (t * 20 + 1) rfl (s.ak t).enc.toList _ HRG.out Try.underlying55 rfl (by kernel_rfl) ?_))
        refine HR.out.mono ?_
        rintro e W3 ⟨U3, ⟨rfl, hJ3⟩ | ⟨rfl, hJ3⟩⟩
        · have HX := Lib.hid (And.intro U3 hJ3)
          clear U3 hJ3
          gi_wp2_with fail
          refine LeftIn.done (by kernel_rfl) ?_
          gi_wp2
          have hL3 := LoopAt.upd (W := W2.drew) HX.out.1 ⟨HL2.out.l, HL2.out.d⟩ (fun h => h.1 rfl) (fun h => h.2 rfl)
          exact ⟨hL3, fun W4 hU4 hL4 => .inl ⟨rfl, hL4, hup _ _ _ _ _ HX.out.2 (hU4.mono fun i _ h => .inr h)⟩⟩
        · have HX := Lib.hid (And.intro U3 hJ3)
          clear U3 hJ3
          gi_wp2_with fail
          refine LeftIn.done (by kernel_rfl) ?_
          gi_wp2
          have hL3 := LoopAt.upd (W := W2.drew) HX.out.1 ⟨HL2.out.l, HL2.out.d⟩ (fun h => h.1 rfl) (fun h => h.2 rfl)
          exact ⟨hL3, fun W4 hU4 hL4 => .inr ⟨rfl, hL4, hupx _ _ _ _ HX.out.2 (hU4.mono fun i _ h => .inr h)⟩⟩
      refine ArmsIn.arm [] 7 rfl (by kernel_rfl) (by kernel_rfl) (fun _ _ d _ _ h => by cases d <;> exact h) (by repeat' first | exact Runs.nil | apply Runs.cons | exact At.head _ _ | apply At.tail) ?_ ArmsIn.none
      gi_wp2_with (first | (refine wpListIn_load_midG (by rfl) 55 _ rfl b (t * 20 + 1) rfl (s.ak t).enc.toList _ HRG.out Try.underlying55 rfl (by kernel_rfl) ?_))
      refine LeftIn.fork (f := 6) [5, 12] (by kernel_rfl) (by simp) rfl ?_
      refine ArmsIn.arm [12, 13, 14, 15, 16, 17] 0 rfl (by kernel_rfl) (by kernel_rfl) (fun _ _ d _ _ h => by cases d <;> exact h) (by repeat' first | exact Runs.nil | apply Runs.cons | exact At.head _ _ | apply At.tail) ?_ ?_
      · gi_wp2_with (first | (refine wpListIn_load_midG (by rfl) 55 _ rfl b (t * 20 + 1) rfl (s.ak t).enc.toList _ HRG.out Try.underlying55 rfl (by kernel_rfl) ?_))
        refine HR.out.mono ?_
        rintro e W3 ⟨U3, ⟨rfl, hJ3⟩ | ⟨rfl, hJ3⟩⟩
        · have HX := Lib.hid (And.intro U3 hJ3)
          clear U3 hJ3
          gi_wp2_with fail
          refine LeftIn.done (by kernel_rfl) ?_
          gi_wp2
          have hL3 := LoopAt.upd (W := W2.drew) HX.out.1 ⟨HL2.out.l, HL2.out.d⟩ (fun h => h.1 rfl) (fun h => h.2 rfl)
          exact ⟨hL3, fun W4 hU4 hL4 => .inl ⟨rfl, hL4, hup _ _ _ _ _ HX.out.2 (hU4.mono fun i _ h => .inr h)⟩⟩
        · have HX := Lib.hid (And.intro U3 hJ3)
          clear U3 hJ3
          gi_wp2_with fail
          refine LeftIn.done (by kernel_rfl) ?_
          gi_wp2
          have hL3 := LoopAt.upd (W := W2.drew) HX.out.1 ⟨HL2.out.l, HL2.out.d⟩ (fun h => h.1 rfl) (fun h => h.2 rfl)
          exact ⟨hL3, fun W4 hU4 hL4 => .inr ⟨rfl, hL4, hupx _ _ _ _ HX.out.2 (hU4.mono fun i _ h => .inr h)⟩⟩
      refine ArmsIn.arm [] 6 rfl (by kernel_rfl) (by kernel_rfl) (fun _ _ d _ _ h => by cases d <;> exact h) (by repeat' first | exact Runs.nil | apply Runs.cons | exact At.head _ _ | apply At.tail) ?_ ArmsIn.none
      gi_wp2_with (first | (refine wpListIn_load_midG (by rfl) 55 _ rfl b (t * 20 + 1) rfl (s.ak t).enc.toList _ HRG.out Try.underlying55 rfl (by kernel_rfl) ?_))
      refine LeftIn.fork (f := 5) [5, 13] (by kernel_rfl) (by simp) rfl ?_
      refine ArmsIn.arm [13, 14, 15, 16, 17] 0 rfl (by kernel_rfl) (by kernel_rfl) (fun _ _ d _ _ h => by cases d <;> exact h) (by repeat' first | exact Runs.nil | apply Runs.cons | exact At.head _ _ | apply At.tail) ?_ ?_
      · gi_wp2_with (first | (refine wpListIn_load_midG (by rfl) 55 _ rfl b (t * 20 + 1) rfl (s.ak t).enc.toList _ HRG.out Try.underlying55 rfl (by kernel_rfl) ?_))
        refine HR.out.mono ?_
        rintro e W3 ⟨U3, ⟨rfl, hJ3⟩ | ⟨rfl, hJ3⟩⟩
        · have HX := Lib.hid (And.intro U3 hJ3)
          clear U3 hJ3
          gi_wp2_with fail
          refine LeftIn.done (by kernel_rfl) ?_
          gi_wp2
          have hL3 := LoopAt.upd (W := W2.drew) HX.out.1 ⟨HL2.out.l, HL2.out.d⟩ (fun h => h.1 rfl) (fun h => h.2 rfl)
          exact ⟨hL3, fun W4 hU4 hL4 => .inl ⟨rfl, hL4, hup _ _ _ _ _ HX.out.2 (hU4.mono fun i _ h => .inr h)⟩⟩
        · have HX := Lib.hid (And.intro U3 hJ3)
          clear U3 hJ3
          gi_wp2_with fail
          refine LeftIn.done (by kernel_rfl) ?_
          gi_wp2
          have hL3 := LoopAt.upd (W := W2.drew) HX.out.1 ⟨HL2.out.l, HL2.out.d⟩ (fun h => h.1 rfl) (fun h => h.2 rfl)
          exact ⟨hL3, fun W4 hU4 hL4 => .inr ⟨rfl, hL4, hupx _ _ _ _ HX.out.2 (hU4.mono fun i _ h => .inr h)⟩⟩
      refine ArmsIn.arm [] 5 rfl (by kernel_rfl) (by kernel_rfl) (fun _ _ d _ _ h => by cases d <;> exact h) (by repeat' first | exact Runs.nil | apply Runs.cons | exact At.head _ _ | apply At.tail) ?_ ArmsIn.none
      gi_wp2_with (first | (refine wpListIn_load_midG (by rfl) 55 _ rfl b (t * 20 + 1) rfl (s.ak t).enc.toList _ HRG.out Try.underlying55 rfl (by kernel_rfl) ?_))
      refine LeftIn.fork (f := 4) [5, 14] (by kernel_rfl) (by simp) rfl ?_
      refine ArmsIn.arm [14, 15, 16, 17] 0 rfl (by kernel_rfl) (by kernel_rfl) (fun _ _ d _ _ h => by cases d <;> exact h) (by repeat' first | exact Runs.nil | apply Runs.cons | exact At.head _ _ | apply At.tail) ?_ ?_
      · gi_wp2_with (first | (refine wpListIn_load_midG (by rfl) 55 _ rfl b (t * 20 + 1) rfl (s.ak t).enc.toList _ HRG.out Try.underlying55 rfl (by kernel_rfl) ?_))
        refine HR.out.mono ?_
        rintro e W3 ⟨U3, ⟨rfl, hJ3⟩ | ⟨rfl, hJ3⟩⟩
        · have HX := Lib.hid (And.intro U3 hJ3)
          clear U3 hJ3
          gi_wp2_with fail
          refine LeftIn.done (by kernel_rfl) ?_
          gi_wp2
          have hL3 := LoopAt.upd (W := W2.drew) HX.out.1 ⟨HL2.out.l, HL2.out.d⟩ (fun h => h.1 rfl) (fun h => h.2 rfl)
          exact ⟨hL3, fun W4 hU4 hL4 => .inl ⟨rfl, hL4, hup _ _ _ _ _ HX.out.2 (hU4.mono fun i _ h => .inr h)⟩⟩
        · have HX := Lib.hid (And.intro U3 hJ3)
          clear U3 hJ3
          gi_wp2_with fail
          refine LeftIn.done (by kernel_rfl) ?_
          gi_wp2
          have hL3 := LoopAt.upd (W := W2.drew) HX.out.1 ⟨HL2.out.l, HL2.out.d⟩ (fun h => h.1 rfl) (fun h => h.2 rfl)
          exact ⟨hL3, fun W4 hU4 hL4 => .inr ⟨rfl, hL4, hupx _ _ _ _ HX.out.2 (hU4.mono fun i _ h => .inr h)⟩⟩
      refine ArmsIn.arm [5, 15, 16, 17] 0 rfl (by kernel_rfl) (by kernel_rfl) (fun _ _ d _ _ h => by cases d <;> exact h) (by repeat' first | exact Runs.nil | apply Runs.cons | exact At.head _ _ | apply At.tail) ?_ ArmsIn.none
      gi_wp2_with (first | (refine wpListIn_load_midG (by rfl) 55 _ rfl b (t * 20 + 1) rfl (s.ak t).enc.toList _ HRG.out Try.underlying55 rfl (by kernel_rfl) ?_))
      refine HR.out.mono ?_
      rintro e W3 ⟨U3, ⟨rfl, hJ3⟩ | ⟨rfl, hJ3⟩⟩
      · have HX := Lib.hid (And.intro U3 hJ3)
        clear U3 hJ3
        gi_wp2_with fail
        refine LeftIn.done (by kernel_rfl) ?_
        gi_wp2
        have hL3 := LoopAt.upd (W := W2.drew) HX.out.1 ⟨HL2.out.l, HL2.out.d⟩ (fun h => h.1 rfl) (fun h => h.2 rfl)
        exact ⟨hL3, fun W4 hU4 hL4 => .inl ⟨rfl, hL4, hup _ _ _ _ _ HX.out.2 (hU4.mono fun i _ h => .inr h)⟩⟩
      · have HX := Lib.hid (And.intro U3 hJ3)
        clear U3 hJ3
        gi_wp2_with fail
        refine LeftIn.done (by kernel_rfl) ?_
        gi_wp2
        have hL3 := LoopAt.upd (W := W2.drew) HX.out.1 ⟨HL2.out.l, HL2.out.d⟩ (fun h => h.1 rfl) (fun h => h.2 rfl)
        exact ⟨hL3, fun W4 hU4 hL4 => .inr ⟨rfl, hL4, hupx _ _ _ _ HX.out.2 (hU4.mono fun i _ h => .inr h)⟩⟩
    · have hne : (s.st t == 1) = false := by simpa using hs
      have HS := Lib.hid hs
      clear hs
      gi_wp2
      refine round_region_grow (by kernel_rfl) (by kernel_rfl) (by kernel_rfl) (fun ⟨_, _, h⟩ => h) ?_
      have y1 : ∀ G : Grown W2, G.W.cell? ⟨bx, 0, none⟩ = some (.pointer (some ⟨b, 0, none⟩)) := fun G => G.cell x1
      repeat (go_big_quiet_step ((first | (go_at_call 34; exact Grown.call_same (state_spec s b t ht _ (QBlk.upd (Grown.h _) HQ.out id))))))
      refine wpQuiet_nil ?_
      intro G
      gi_wp2
      exact ⟨HL2.out.upd G.h id id, fun W4 hU4 hL4 => .inl ⟨rfl, hL4, hup _ _ _ _ _ (hskip _ _ _ _ ht HS.out (hup _ _ _ _ _ HJ2.out (G.h.mono fun _ _ h => h.elim))) (hU4.mono fun i _ h => .inr h)⟩⟩
  case hend =>
    rintro e W' ⟨rfl, ⟨hl, hj⟩ | ⟨hl, hj⟩⟩
    · refine ⟨⟨_, rfl⟩, .inl ⟨hl, fun W4 hU4 hd4 => ?_⟩⟩
      have HH := Lib.hid (hup _ _ _ _ _ hj (hU4.mono fun i _ h => .inr h))
      clear hj hl hU4
      go_wp2_with fail
      refine postM_end1 (v := .tuple #[]) (D := D) (fun w' _ => results_none rfl _ _ _) rfl hd4 ?_
      intro w' hU'
      exact ⟨rfl, .inl ⟨_, _, hup _ _ _ _ _ HH.out (hU'.mono fun i _ h => .inl h)⟩⟩
    · refine ⟨⟨_, rfl⟩, .inr ⟨_, hl, fun W4 hU4 hd4 => ?_⟩⟩
      have HH := Lib.hid (hupx _ _ _ _ hj (hU4.mono fun i _ h => .inr h))
      clear hj hl hU4
      go_wp2_with fail
      refine postM_ret1 (v := .tuple #[]) (D := D) (fun w' _ => results_none rfl _ _ _) rfl hd4 ?_
      intro w' hU'
      exact ⟨rfl, .inr ⟨_, _, hupx _ _ _ _ HH.out (hU'.mono fun i _ h => .inl h)⟩⟩
end Go.Proofs.Ytmblplhehbdocaa
