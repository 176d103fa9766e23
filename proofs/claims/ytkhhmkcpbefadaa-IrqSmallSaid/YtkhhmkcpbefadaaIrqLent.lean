/- Lent rows of truths: made, held against what they were. Conditions: the argument's cells are known. -/
import Derived.Test.YtkhhmkcpbefadaaIrqSize
import Derived.OwnWalk
import Derived.Test.YtkhhmkcpbefadaaGrow
namespace Go.Proofs.Ytkhhmkcpbefadaa
open Go.RowKit
theorem mark_is (a : Int) (ha : a = 1 ∨ a = 2) (i : Nat) (hi : i ≤ 1000) (w : World) : Calls Try.prog 50 #[.int .i64 a, .int .i64 i] w fun e w' => e = .returned (.int .i64 (1000003 * (a + 7) + i)) ∧ w' = w := by
  rcases ha with rfl | rfl
  all_goals
    go_enter Try.func50, Try.ntmps50
    go_wp2
    go_ret
    exact ⟨rfl, rfl⟩
theorem mark1_is (i : Nat) (hi : i ≤ 1000) (w : World) : Calls Try.prog 50 #[.int .i64 1, .int .i64 i] w fun e w' => e = .returned (.int .i64 (8000024 + i)) ∧ w' = w := mark_is 1 (.inl rfl) i hi w
theorem mark2_is (i : Nat) (hi : i ≤ 1000) (w : World) : Calls Try.prog 50 #[.int .i64 2, .int .i64 i] w fun e w' => e = .returned (.int .i64 (9000027 + i)) ∧ w' = w := mark_is 2 (.inr rfl) i hi w
/-- The marks behind a row of truths. -/
def mkT (j : Nat) : Bool := (8000024 + j) % 3 == 0
def marksT : Nat → List Value
  | 0 => []
  | t + 1 => marksT t ++ [.bool (mkT t)]
theorem marksT_length : ∀ t, (marksT t).length = t
  | 0 => rfl
  | t + 1 => by rw [marksT, List.length_append, marksT_length t]; rfl
theorem marksT_at : ∀ t j, j < t → (marksT t)[j]? = some (.bool (mkT j))
  | t + 1, j, h => by
    rw [marksT]
    by_cases hj : j < t
    · rw [List.getElem?_append_left (by rw [marksT_length]; exact hj)]; exact marksT_at t j hj
    · obtain rfl : j = t := by omega
      rw [List.getElem?_append_right (by rw [marksT_length]; omega), marksT_length, Nat.sub_self]; rfl
theorem mkT_mod (j : Nat) : (((8000024 : Int) + (j : Int)) % 3 == 0) = mkT j := by
  unfold mkT
  have e : ((8000024 : Int) + (j : Int)) % 3 = (((8000024 + j) % 3 : Nat) : Int) := by omega
  rw [e, Bool.eq_iff_iff]
  simp
  omega
theorem mkT_run (j : Nat) : (((8000024 : Int) + (j : Int)).tmod 3 == 0) = mkT j := by
  unfold mkT
  have e : ((8000024 : Int) + (j : Int)).tmod 3 = (((8000024 + j) % 3 : Nat) : Int) := by
    rw [Int.tmod_eq_emod_of_nonneg (by omega)]
    omega
  rw [e]
  rw [Bool.eq_iff_iff]
  simp
  omega
/-- A lent row: n cells of what was lent, 12 marks behind. -/
structure LentT (w W : World) (LV : Nat → Bool) (n g cap : Nat) : Prop where
  own : W.ownsRow w.heap.size 4 1 (.slice (some ⟨g, 0, none⟩) (n + 12) cap) (n + 12) (bools LV n ++ marksT 12)
theorem app_none (t : TypeId) (e sz : Nat) (ht : Try.prog.underlying t = some (.slice e)) (hi : (Try.prog.info? e).map (·.size) = some sz) (g n0 cap c : Nat) (h : n0 ≤ cap) (W : World) :
    (Builtin.append_ #[t, t] t #[.slice (some ⟨g, 0, none⟩) n0 cap, .slice none 0 c]).run Try.prog W = .ok (.slice (some ⟨g, 0, none⟩) n0 cap) W := by
  obtain ⟨i, hi1, hi2⟩ := Option.map_eq_some_iff.1 hi
  have hs : (sizeOf e).run Try.prog W = .ok sz W := by simp [sizeOf, typeInfo, hi1, hi2]
  simp [Builtin.append_, run_underlying ht, hs, Builtin.firstCells, Builtin.lenOf, storeCells, h, Result.andThen]
/-- append(v, x...): v a row of the call's own that is not nil. -/
theorem app_row (t : TypeId) (e sz bytes : Nat) (z : Value) (ht : Try.prog.underlying t = some (.slice e)) (hinfo : (Try.prog.info? e).map (fun i => (i.zero, i.size, i.bytes)) = some (some z, sz, bytes)) (hzs : z.cells.size = sz) (hsz : 0 < sz)
    {W : World} {base g n0 cap : Nat} {xs : List Value} (hown : W.ownsRow base e sz (.slice (some ⟨g, 0, none⟩) n0 cap) n0 xs) (A : Option Addr) (m c : Nat) (news : List Value) (hl : news.length = m * sz) (h1 : news.all (fun u => u.oneCell') = true)
    (hx : 0 < m → ∃ b o, A = some ⟨b, o, none⟩ ∧ ∀ j u, news[j]? = some u → W.cell? ⟨b, o + j, none⟩ = some u) (hb : (n0 + m) * bytes ≤ 1000000000) (hn : n0 + m ≤ 100000000) (hbase : base ≤ W.heap.size) :
    ∃ g' cap' w', (Builtin.append_ #[t, t] t #[.slice (some ⟨g, 0, none⟩) n0 cap, .slice A m c]).run Try.prog W = .ok (.slice (some ⟨g', 0, none⟩) (n0 + m) cap') w' ∧ w'.ownsRow base e sz (.slice (some ⟨g', 0, none⟩) (n0 + m) cap') (n0 + m) (xs ++ news) ∧ W.grownBy w' (some g) := by
  by_cases h0 : m = 0 ∧ A = none
  · obtain ⟨rfl, rfl⟩ := h0
    have hle : n0 ≤ cap := by
      rcases hown.2 with ⟨h, _⟩ | ⟨_, _, _, h, _, _, h3, _⟩
      · cases h
      · cases h; exact h3
    have hnil : news = [] := List.eq_nil_of_length_eq_zero (by rw [hl]; omega)
    subst hnil
    refine ⟨g, cap, W, app_none t e sz ht ?_ g n0 cap c hle W, by simpa using hown, ⟨rfl, rfl, rfl, Nat.le_refl _, fun _ _ _ => rfl⟩⟩
    obtain ⟨i, hi, hq⟩ := Option.map_eq_some_iff.1 hinfo
    rw [hi]; simp only [Prod.mk.injEq] at hq; simp [hq.2.1]
  · have hA : ∃ a, A = some a ∧ ∀ j u, news[j]? = some u → W.cell? (a.add j) = some u := by
      by_cases hm : 0 < m
      · obtain ⟨b, o, rfl, hc⟩ := hx hm
        exact ⟨_, rfl, fun j u hj => by rw [show (⟨b, o, none⟩ : Addr).add j = ⟨b, o + j, none⟩ by unfold Addr.add; split <;> simp_all]; exact hc j u hj⟩
      · have hm0 : m = 0 := by omega
        subst hm0
        have hnil : news = [] := List.eq_nil_of_length_eq_zero (by rw [hl]; omega)
        subst hnil
        cases A with
        | none => exact absurd ⟨rfl, rfl⟩ h0
        | some a => exact ⟨a, rfl, fun j u hj => by cases hj⟩
    obtain ⟨a, rfl, hc⟩ := hA
    obtain ⟨i, hi, hz0, hz1, hz2⟩ := info_parts hinfo
    obtain ⟨v', w', hr, h2, h3, h4, h5⟩ := run_append_own_at (P := Try.prog) W base t t e i z sz bytes ht hi hz0 hz1 hz2 hzs hsz _ n0 _ hown a m c news hl hc (fun u hu => List.all_eq_true.1 h1 u hu) (by unfold maxLen; omega) (by omega) hbase
    rcases h2.2 with ⟨h6, _⟩ | ⟨g', cap', cur, h6, _⟩
    · have := (h4.1 h6).1
      cases this
    · subst h6
      exact ⟨g', cap', w', hr, h2, h3⟩
theorem own_cap {w : World} {base : Nat} {e : TypeId} {sz n g cap m : Nat} {xs : List Value} (h : w.ownsRow base e sz (.slice (some ⟨g, 0, none⟩) m cap) n xs) : n ≤ cap ∧ base ≤ g ∧ g < w.heap.size := by
  rcases h.2 with ⟨h, _⟩ | ⟨g', cap', cur, h, hg, hh, h3, _⟩
  · cases h
  · cases h; exact ⟨h3, hg, (Array.getElem?_eq_some_iff.1 hh).1⟩
set_option maxRecDepth 100000 in
set_option maxHeartbeats 8000000 in
theorem lentT_is (A : Option Addr) (n cc : Nat) (LV : Nat → Bool) (hn : n ≤ 1000) (w : World) (hd : 0 < n → ∃ b o, A = some ⟨b, o, none⟩ ∧ ∀ i, i < n → w.cell? ⟨b, o + i, none⟩ = some (.bool (LV i))) :
    Calls Try.prog 40 #[.slice A n cc] w fun e w' => ∃ g cap, e = .returned (.slice (some ⟨g, 0, none⟩) n cap) ∧ LentT w w' LV n g cap ∧ Upd Non w w' := by
  obtain ⟨i, hi, hz0, hz1, hz2⟩ := info_parts (show (Try.prog.info? 4).map (fun i => (i.zero, i.size, i.bytes)) = some (some (.bool false), 1, 1) by kernel_rfl)
  have HI := Lib.hid (And.intro hi (And.intro hz0 (And.intro hz1 hz2)))
  have HD := Lib.hid hd
  clear hi hz0 hz1 hz2 hd
  go_enter Try.func40, Try.ntmps40
  have HL := Lib.hid (fun (w1 : World) (r1 : w1.ownsRow w.heap.size 4 1 (.slice (some ⟨w.heap.size, 0, none⟩) 0 (n + 12)) 0 []) (r2 : w.grownBy w1 none) => app_row 22 4 1 1 (.bool false) Try.underlying22 (by kernel_rfl) rfl (by decide) r1 A n cc (bools LV n) (by rw [bools_length]; omega) (by simp [bools, Value.oneCell']) (fun hp => by
    obtain ⟨b, o, e, hc⟩ := HD.out hp
    refine ⟨b, o, e, fun j u hj => ?_⟩
    have hjn : j < n := by have := (List.getElem?_eq_some_iff.1 hj).1; rwa [bools_length] at this
    rw [bools_at LV hjn] at hj
    cases hj
    exact (Upd.grown (S := Non) r2 (Upd.refl _ _) (fun _ h => by cases h)).cell_eq id (hc j hjn)) (by omega) (by omega) r2.size)
  go_wp2_with (first
    | (at_make; refine wpList_make_own _ rfl _ _ 22 rfl w.heap.size 4 i _ 1 Try.underlying22 HI.out.1 HI.out.2.1 HI.out.2.2.1 _ _ _ (n + 12) rfl rfl (by first | rfl | (simp; done) | omega) (by rw [HI.out.2.2.2]; omega) (by unfold maxLen; omega) (Nat.le_refl _) ?_; intro w1 r1 r2; obtain ⟨g, cap, w2, hr, hown, hgr⟩ := HL.out w1 r1 r2; have HR := Lib.hid hr; have HO := Lib.hid hown; have HU := Lib.hid (show Upd Non w w2 from Upd.grown hgr (Upd.grown (S := Non) r2 (Upd.refl _ _) (fun _ h => by cases h)) (fun r h => .inr (by injection h with h; omega))); clear r1 r2 hr hown hgr)
    | (refine wpList_appendK rfl _ _ 22 rfl rfl rfl HR.out ?_))
  clear HL HR HI
  go_loopw [3, 4] (fun v i wr => ∃ t g cap : Nat, t ≤ 12 ∧ i = .int .i64 t ∧ v = .slice (some ⟨g, 0, none⟩) (n + t) cap ∧ wr.ownsRow w.heap.size 4 1 (.slice (some ⟨g, 0, none⟩) (n + t) cap) (n + t) (bools LV n ++ marksT t) ∧ Upd Non w wr) (fun _ i _ => 12 - (intOf i).toNat)
  case atStart => exact ⟨0, g, cap, by omega, rfl, by first | rfl | (simp; done), by have h := HO.out; simp only [Nat.zero_add] at h; rw [marksT, List.append_nil, Nat.add_zero]; simpa using h, HU.out⟩
  case round =>
    clear HO HU
    obtain ⟨t, g, cap, ht, rfl, rfl, hown, hU⟩ := hrel
    have HO := Lib.hid hown
    have HU := Lib.hid hU
    have hcap := (own_cap hown).1
    clear hown hU
    by_cases hlt : t < 12
    case neg =>
      have k1 : ¬ (t : Int) < 12 := by omega
      obtain rfl : t = 12 := by omega
      have k2 : (n : Int) ≤ cap := by omega
      have k3 : n ≤ cap := by omega
      go_wp2_with fail
      go_ret
      exact ⟨g, cap, rfl, ⟨HO.out⟩, HU.out⟩
    have k1 : (t : Int) < 12 := by omega
    have z1 := mkT_run t
    have z9 := mkT_mod t
    go_wp2_with (first
      | (go_at_call 50; refine (mark1_is t (by omega) _).mono ?_; rintro e w3 ⟨rfl, rfl⟩)
      | (refine wpList_gappend rfl _ _ 22 rfl 4 (.bool false) 1 1 Try.underlying22 (by kernel_rfl) rfl (by decide) rfl (own_upd (S := Non) (Upd.alloc (Upd.refl _ _)) HO.out fun _ _ => id) w3.heap.size #[.bool (mkT t)] 4 rfl (Blk.new _ _ _) rfl rfl (by omega) (by omega) (Nat.le_trans HU.out.size (Upd.size (S := Non) (Upd.alloc (Upd.refl _ _)))) ?_; intro v' w4 r1 r2 r3; obtain ⟨g4, c4, rfl, hb4, _⟩ := own_form r1 (by omega); have HO4 := Lib.hid r1; have HU4 := Lib.hid (show Upd Non w w4 from Upd.grown r2 (Upd.alloc HU.out) (fun r h => .inr (own_block HO.out r h).1)); clear r1 r2 r3 hb4))
    refine ⟨⟨t + 1, g4, c4, by omega, rfl, by first | rfl | (simp; done), ?_, HU4.out⟩, by simp only [intOf]; omega⟩
    have h := HO4.out
    rw [List.append_assoc] at h
    exact h
set_option maxRecDepth 100000 in
set_option maxHeartbeats 8000000 in
theorem keptT_is (A : Option Addr) (n cc g cap : Nat) (LV : Nat → Bool) (hn : n ≤ 1000) (w0 w : World) (hL : LentT w0 w LV n g cap) (hd : 0 < n → ∃ b o, A = some ⟨b, o, none⟩ ∧ ∀ i, i < n → w.cell? ⟨b, o + i, none⟩ = some (.bool (LV i))) :
    Calls Try.prog 42 #[.slice (some ⟨g, 0, none⟩) n cap, .slice A n cc] w fun e w' => e = .returned (.bool true) ∧ Upd Non w w' := by
  obtain ⟨A7, c7, e7, h7⟩ := own_cells hL.own
  obtain ⟨g7, rfl, _, _, _, h8⟩ := h7 (by omega)
  simp only [Value.slice.injEq, Option.some.injEq, Addr.mk.injEq, and_true, true_and] at e7
  obtain ⟨rfl, rfl⟩ := e7
  have hcap := (own_cap hL.own).1
  have HD := Lib.hid hd
  have H8 := Lib.hid h8
  clear hL h7 h8 hd
  have z0 : ((n : Int) != (n : Int)) = false := by simp
  have k2 : (n : Int) + 12 ≤ cap := by omega
  have k3 : n + 12 ≤ cap := by omega
  go_enter Try.func42, Try.ntmps42
  go_wp2_with fail
  go_loopw [6] (fun i wr => ∃ t : Nat, t ≤ n + 12 ∧ i = .int .i64 t ∧ Upd Non w wr) (fun i _ => n + 12 - (intOf i).toNat)
  case atStart => exact ⟨0, Nat.zero_le _, rfl, Upd.refl _ _⟩
  case round =>
    obtain ⟨t, ht, rfl, hU⟩ := hrel
    have HU := Lib.hid hU
    clear hU
    by_cases hlt : t < n + 12
    case neg =>
      have k1 : ¬ (t : Int) < (n : Int) + 12 := by omega
      go_wp2_with fail
      go_ret
      exact ⟨rfl, HU.out⟩
    have k1 : (t : Int) < (n : Int) + 12 := by omega
    by_cases ht2 : t < n
    · have k4 : (t : Int) < n := by omega
      obtain ⟨b2, o2, rfl, h2⟩ := HD.out (by omega)
      have e2 := h2 t ht2
      have e1 := H8.out t _ ((List.getElem?_append_left (by rw [bools_length]; exact ht2)).trans (bools_at LV ht2))
      obtain ⟨y, hy⟩ : ∃ y, y = LV t := ⟨_, rfl⟩
      rw [← hy] at e1 e2
      have g1 : ∀ G : Grown wr, G.W.cell? ⟨g, t, none⟩ = some (.bool y) := fun G => G.cell (HU.out.cell_eq id e1)
      have g2 : ∀ G : Grown wr, G.W.cell? ⟨b2, o2 + t, none⟩ = some (.bool y) := fun G => G.cell (HU.out.cell_eq id e2)
      have y1 : decide (n ≤ t) = false := decide_eq_false (by omega)
      have y2 : decide ((t : Int) < n) = true := decide_eq_true k4
      clear h2 hy e1 e2
      go_wp2_with fail
      refine wp_region_grow (by kernel_rfl) (by kernel_rfl) ?_
      repeat go_big_quiet_step (fail)
      refine wpQuiet_nil ?_
      rintro ⟨w9, hU9⟩
      show Exit.then _ _ _ _ w9
      have HU9 := Lib.hid (Upd.call hU9 HU.out fun _ _ h => h)
      clear hU9
      go_wp2_with fail
      exact ⟨⟨t + 1, by omega, rfl, HU9.out⟩, by simp only [intOf]; omega⟩
    · have k4 : ¬ (t : Int) < n := by omega
      obtain ⟨j, rfl⟩ : ∃ j, t = n + j := ⟨t - n, by omega⟩
      have hj : j < 12 := by omega
      have e1 := H8.out (n + j) _ ((List.getElem?_append_right (by rw [bools_length]; omega)).trans (by rw [bools_length, show n + j - n = j by omega]; exact marksT_at 12 j hj))
      have G1 := Lib.hid (show ∀ G : Grown wr, G.W.cell? ⟨g, n + j, none⟩ = some (.bool (mkT j)) from fun G => G.cell (HU.out.cell_eq id e1))
      have M := Lib.hid (fun W => (show Calls Try.prog 50 #[.int .i64 1, .int .i64 ((n : Int) + (j : Int) - (n : Int))] W (fun e w' => e = .returned (.int .i64 (8000024 + j)) ∧ W = w') by
        rw [show (n : Int) + (j : Int) - (n : Int) = (j : Int) by omega]
        exact (mark1_is j (by omega) W).mono fun _ _ h => ⟨h.1, h.2.symm⟩))
      have hj2 : (j : Int) < 12 := by omega
      clear HD k4 ht2 H8 e1
      go_wp2_with fail
      have g1 := G1.out
      have y1 : decide ((n : Int) + (j : Int) < n) = false := decide_eq_false (by omega)
      have y2 : decide ((n : Int) ≤ (n : Int) + (j : Int)) = true := decide_eq_true (by omega)
      have z9 := mkT_mod j
      refine wp_region_grow (by kernel_rfl) (by kernel_rfl) ?_
      repeat go_big_quiet_step ((go_at_call 50; exact Grown.call_same (M.out _)))
      refine wpQuiet_nil ?_
      rintro ⟨w9, hU9⟩
      show Exit.then _ _ _ _ w9
      have HU9 := Lib.hid (Upd.call hU9 HU.out fun _ _ h => h)
      clear hU9 z9 y1 y2 g1
      go_wp2_with fail
      exact ⟨⟨n + j + 1, by omega, rfl, HU9.out⟩, by simp only [intOf]; omega⟩
end Go.Proofs.Ytkhhmkcpbefadaa
