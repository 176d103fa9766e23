/- Lent rows of devices; which deed is meant. Conditions: the argument's cells are known. -/
import Derived.Test.YtkhhmkcpbefadaaIrqLent
import Derived.Test.YtkhhmkcpbefadaaIrqArgs
namespace Go.Proofs.Ytkhhmkcpbefadaa
open Go.RowKit
theorem tmod7 (x : Int) : (0 ≤ x ∧ x.tmod 7 = x % 7) ∨ (x < 0 ∧ x.tmod 7 = -((-x) % 7)) := by
  by_cases h : 0 ≤ x
  · exact .inl ⟨h, Int.tmod_eq_emod_of_nonneg h⟩
  · refine .inr ⟨by omega, ?_⟩
    have e : x.tmod 7 = -((-x).tmod 7) := by rw [Int.neg_tmod]; omega
    rw [e, Int.tmod_eq_emod_of_nonneg (by omega)]
theorem pick_is (x : Int) (w : World) : Calls Try.prog 39 #[.int .i64 x, .int .i64 7] w fun e w' => e = .returned (.int .i64 (x % 7)) ∧ w = w' := by
  have hb := tmod7 x
  by_cases h : x.tmod 7 < 0
  · have Z := Lib.hid (show x.tmod 7 + 7 = x % 7 by omega)
    have b1 : -7 ≤ x.tmod 7 := by omega
    clear hb
    go_enter Try.func39, Try.ntmps39
    go_wp2
    go_ret
    exact ⟨congrArg (fun z => Ending.returned (.int .i64 z)) Z.out, rfl⟩
  · have Z := Lib.hid (show x.tmod 7 = x % 7 by omega)
    clear hb
    go_enter Try.func39, Try.ntmps39
    go_wp2
    go_ret
    exact ⟨congrArg (fun z => Ending.returned (.int .i64 z)) Z.out, rfl⟩
theorem markD1_is (i : Nat) (hi : i ≤ 1000) (w : World) : Calls Try.prog 38 #[.int .i64 1, .int .i64 i] w fun e w' => e = .returned (.agg #[.int .i64 0, .int .u32 0, .int .i64 (8000024 + i), .int .i64 0, .int .i64 0]) ∧ Upd Non w w' := by
  go_enter Try.func38, Try.ntmps38
  go_wp2_with (go_at_call 50; refine (mark1_is i hi _).mono ?_; rintro e w1 ⟨rfl, rfl⟩)
  refine bodyPost_ret (results_cell_row Try.results38 _ _ _ 31 #[.int .i64 0, .int .u32 0, .int .i64 (8000024 + i), .int .i64 0, .int .i64 0] (0, 0) _ rfl (heap_alloc_new _ _) Try.underlying31 rfl (by kernel_rfl)) rfl ?_
  exact ⟨rfl, by ((with_reducible repeat' first | exact Upd.refl _ _ | apply Upd.drew | apply Upd.drewN | apply Upd.alloc | refine Upd.setCell ?_ ?_) <;> first | (intro _ _ h; exact h) | (intro _ _ h; exact h.elim) | (intro i h1 h2; exfalso; (try simp only at h2); omega) | (left; rfl) | (right; dsimp only; omega) | (right; omega))⟩
theorem markD2_is (i : Nat) (hi : i ≤ 1000) (w : World) : Calls Try.prog 38 #[.int .i64 2, .int .i64 i] w fun e w' => e = .returned (.agg #[.int .i64 0, .int .u32 0, .int .i64 (9000027 + i), .int .i64 0, .int .i64 0]) ∧ Upd Non w w' := by
  go_enter Try.func38, Try.ntmps38
  go_wp2_with (go_at_call 50; refine (mark2_is i hi _).mono ?_; rintro e w1 ⟨rfl, rfl⟩)
  refine bodyPost_ret (results_cell_row Try.results38 _ _ _ 31 #[.int .i64 0, .int .u32 0, .int .i64 (9000027 + i), .int .i64 0, .int .i64 0] (0, 0) _ rfl (heap_alloc_new _ _) Try.underlying31 rfl (by kernel_rfl)) rfl ?_
  exact ⟨rfl, by ((with_reducible repeat' first | exact Upd.refl _ _ | apply Upd.drew | apply Upd.drewN | apply Upd.alloc | refine Upd.setCell ?_ ?_) <;> first | (intro _ _ h; exact h) | (intro _ _ h; exact h.elim) | (intro i h1 h2; exfalso; (try simp only at h2); omega) | (left; rfl) | (right; dsimp only; omega) | (right; omega))⟩
/-- The devices, all their cells. -/
structure Dev where
  k : Int
  a : Int
  z : Int
  o : Int
  l : Int
def Dev.enc (d : Dev) : List Value := [.int .i64 d.k, .int .u32 d.a, .int .i64 d.z, .int .i64 d.o, .int .i64 d.l]
def devL (D : Nat → Dev) : Nat → List Value
  | 0 => []
  | t + 1 => devL D t ++ (D t).enc
theorem devL_length (D : Nat → Dev) : ∀ t, (devL D t).length = t * 5
  | 0 => rfl
  | t + 1 => by rw [devL, List.length_append, devL_length D t]; show _ + 5 = _; omega
theorem devL_at (D : Nat → Dev) : ∀ t i, i < t → ∀ k, k < 5 → (devL D t)[i * 5 + k]? = (D i).enc[k]?
  | t + 1, i, h, k, hk => by
    rw [devL]
    by_cases hi : i < t
    · rw [List.getElem?_append_left (by rw [devL_length]; omega)]; exact devL_at D t i hi k hk
    · obtain rfl : i = t := by omega
      rw [List.getElem?_append_right (by rw [devL_length]; omega), devL_length, show i * 5 + k - i * 5 = k by omega]
theorem devs_all {w : World} {A : Option Addr} {n : Nat} {O N : Nat → Int} (h : DevsAt w A n O N) : ∃ D : Nat → Dev, (∀ i, i < n → (D i).o = O i ∧ (D i).l = N i) ∧ (0 < n → ∃ b o, A = some ⟨b, o, none⟩ ∧ ∀ j u, (devL D n)[j]? = some u → w.cell? ⟨b, o + j, none⟩ = some u) := by
  by_cases hn : 0 < n
  · obtain ⟨b, o, rfl, hc⟩ := h hn
    have key : ∀ i, ∃ d : Dev, i < n → d.o = O i ∧ d.l = N i ∧ ∀ k u, d.enc[k]? = some u → w.cell? ⟨b, o + (i * 5 + k), none⟩ = some u := by
      intro i
      by_cases hi : i < n
      · obtain ⟨c0, c1, c2, h0, h1, h2, h3, h4⟩ := hc i hi
        refine ⟨⟨c0, c1, c2, O i, N i⟩, fun _ => ⟨rfl, rfl, fun k u hk => ?_⟩⟩
        rcases k with _ | _ | _ | _ | _ | k
        · cases hk; exact h0
        · cases hk; rw [← Nat.add_assoc]; exact h1
        · cases hk; rw [← Nat.add_assoc]; exact h2
        · cases hk; rw [← Nat.add_assoc]; exact h3
        · cases hk; rw [← Nat.add_assoc]; exact h4
        · cases hk
      · exact ⟨⟨0, 0, 0, 0, 0⟩, fun h => absurd h hi⟩
    refine ⟨fun i => (key i).choose, fun i hi => ⟨((key i).choose_spec hi).1, ((key i).choose_spec hi).2.1⟩, fun _ => ⟨b, o, rfl, fun j u hj => ?_⟩⟩
    have hjl : j < n * 5 := by have := (List.getElem?_eq_some_iff.1 hj).1; rwa [devL_length] at this
    have hi : j / 5 < n := by omega
    have e := devL_at (fun i => (key i).choose) n (j / 5) hi (j % 5) (by omega)
    rw [show j / 5 * 5 + j % 5 = j by omega] at e
    rw [e] at hj
    have := ((key (j / 5)).choose_spec hi).2.2 (j % 5) u hj
    rwa [show j / 5 * 5 + j % 5 = j by omega] at this
  · exact ⟨fun _ => ⟨0, 0, 0, 0, 0⟩, fun i hi => absurd hi (by omega), fun h => absurd h hn⟩
theorem devL_one (D : Nat → Dev) : ∀ n, (devL D n).all (fun u => u.oneCell') = true
  | 0 => rfl
  | n + 1 => by rw [devL, List.all_append, devL_one D n]; rfl
/-- The marks behind a row of devices. -/
def marksD : Nat → List Value
  | 0 => []
  | t + 1 => marksD t ++ [.int .i64 0, .int .u32 0, .int .i64 (8000024 + t), .int .i64 0, .int .i64 0]
theorem marksD_length : ∀ t, (marksD t).length = t * 5
  | 0 => rfl
  | t + 1 => by rw [marksD, List.length_append, marksD_length t]; show _ + 5 = _; omega
structure LentD (w W : World) (D : Nat → Dev) (n g cap : Nat) : Prop where
  own : W.ownsRow w.heap.size 31 5 (.slice (some ⟨g, 0, none⟩) (n + 12) cap) (n + 12) (devL D n ++ marksD 12)
set_option maxRecDepth 100000 in
set_option maxHeartbeats 8000000 in
theorem lentD_is (A : Option Addr) (n cc : Nat) (D : Nat → Dev) (hn : n ≤ 1000) (w : World) (hd : 0 < n → ∃ b o, A = some ⟨b, o, none⟩ ∧ ∀ j u, (devL D n)[j]? = some u → w.cell? ⟨b, o + j, none⟩ = some u) :
    Calls Try.prog 22 #[.slice A n cc] w fun e w' => ∃ g cap, e = .returned (.slice (some ⟨g, 0, none⟩) n cap) ∧ LentD w w' D n g cap ∧ Upd Non w w' := by
  obtain ⟨i, hi, hz0, hz1, hz2⟩ := info_parts (show (Try.prog.info? 31).map (fun i => (i.zero, i.size, i.bytes)) = some (some (.agg #[.int .i64 0, .int .u32 0, .int .i64 0, .int .i64 0, .int .i64 0]), 5, 40) by kernel_rfl)
  have HI := Lib.hid (And.intro hi (And.intro hz0 (And.intro hz1 hz2)))
  have HD := Lib.hid hd
  clear hi hz0 hz1 hz2 hd
  go_enter Try.func22, Try.ntmps22
  have HL := Lib.hid (fun (w1 : World) (r1 : w1.ownsRow w.heap.size 31 5 (.slice (some ⟨w.heap.size, 0, none⟩) 0 (n + 12)) 0 []) (r2 : w.grownBy w1 none) => app_row 33 31 5 40 (.agg #[.int .i64 0, .int .u32 0, .int .i64 0, .int .i64 0, .int .i64 0]) Try.underlying33 (by kernel_rfl) rfl (by decide) r1 A n cc (devL D n) (devL_length D n) (devL_one D n) (fun hp => by
    obtain ⟨b, o, e, hc⟩ := HD.out hp
    refine ⟨b, o, e, fun j u hj => ?_⟩
    exact (Upd.grown (S := Non) r2 (Upd.refl _ _) (fun _ h => by cases h)).cell_eq id (hc j u hj)) (by omega) (by omega) r2.size)
  go_wp2_with (first
    | (at_make; refine wpList_make_own _ rfl _ _ 33 rfl w.heap.size 31 i _ 5 Try.underlying33 HI.out.1 HI.out.2.1 HI.out.2.2.1 _ _ _ (n + 12) rfl rfl (by first | rfl | (simp; done) | omega) (by rw [HI.out.2.2.2]; omega) (by unfold maxLen; omega) (Nat.le_refl _) ?_; intro w1 r1 r2; obtain ⟨g, cap, w2, hr, hown, hgr⟩ := HL.out w1 r1 r2; have HR := Lib.hid hr; have HO := Lib.hid hown; have HU := Lib.hid (show Upd Non w w2 from Upd.grown hgr (Upd.grown (S := Non) r2 (Upd.refl _ _) (fun _ h => by cases h)) (fun r h => .inr (by injection h with h; omega))); clear r1 r2 hr hown hgr)
    | (refine wpList_appendK rfl _ _ 33 rfl rfl rfl HR.out ?_))
  clear HL HR HI
  go_loopw [3, 4] (fun v i wr => ∃ t g cap : Nat, t ≤ 12 ∧ i = .int .i64 t ∧ v = .slice (some ⟨g, 0, none⟩) (n + t) cap ∧ wr.ownsRow w.heap.size 31 5 (.slice (some ⟨g, 0, none⟩) (n + t) cap) (n + t) (devL D n ++ marksD t) ∧ Upd Non w wr) (fun _ i _ => 12 - (intOf i).toNat)
  case atStart => exact ⟨0, g, cap, by omega, rfl, by first | rfl | (simp; done), by have h := HO.out; simp only [Nat.zero_add] at h; rw [marksD, List.append_nil, Nat.add_zero]; simpa using h, HU.out⟩
  case round =>
    clear HO HU
    obtain ⟨t, g, cap, ht, rfl, rfl, hown, hU⟩ := hrel
    have HO := Lib.hid hown
    have HU := Lib.hid hU
    have hcap := (own_cap hown).1
    clear hown hU
    by_cases hlt : t < 12
    case neg =>
      have k1 : ¬ (t : Int) < 12 := by omega
      obtain rfl : t = 12 := by omega
      have k2 : (n : Int) ≤ cap := by omega
      have k3 : n ≤ cap := by omega
      go_wp2_with fail
      go_ret
      exact ⟨g, cap, rfl, ⟨HO.out⟩, HU.out⟩
    have k1 : (t : Int) < 12 := by omega
    go_wp2_with (first
      | (go_at_call 38; refine (markD1_is t (by omega) _).mono ?_; rintro e w3 ⟨rfl, hu3⟩; have HU3 := Lib.hid hu3; clear hu3)
      | (refine wpList_gappend rfl _ _ 33 rfl 31 (.agg #[.int .i64 0, .int .u32 0, .int .i64 0, .int .i64 0, .int .i64 0]) 5 40 Try.underlying33 (by kernel_rfl) rfl (by decide) rfl (own_upd (S := Non) (Upd.alloc HU3.out) HO.out fun _ _ => id) w3.heap.size #[.int .i64 0, .int .u32 0, .int .i64 (8000024 + t), .int .i64 0, .int .i64 0] 31 rfl (Blk.new _ _ _) rfl rfl (by omega) (by omega) (Nat.le_trans HU.out.size (Upd.size (Upd.alloc HU3.out))) ?_; intro v' w4 r1 r2 r3; obtain ⟨g4, c4, rfl, hb4, _⟩ := own_form r1 (by omega); have HO4 := Lib.hid r1; have HU4 := Lib.hid (show Upd Non w w4 from Upd.grown r2 (Upd.alloc (Upd.call HU3.out HU.out fun _ _ h => h)) (fun r h => .inr (own_block HO.out r h).1)); clear r1 r2 r3 hb4))
    refine ⟨⟨t + 1, g4, c4, by omega, rfl, by first | rfl | (simp; done), ?_, HU4.out⟩, by simp only [intOf]; omega⟩
    have h := HO4.out
    rw [List.append_assoc] at h
    exact h
end Go.Proofs.Ytkhhmkcpbefadaa
