/- A lent row of devices held against what it was. Conditions: the argument's cells are known. -/
import Derived.Test.YtkhhmkcpbefadaaIrqLentD
namespace Go.Proofs.Ytkhhmkcpbefadaa
open Go.RowKit
def markD (j : Nat) : Dev := ⟨0, 0, 8000024 + j, 0, 0⟩
theorem marksD_at : ∀ t i, i < t → ∀ k, k < 5 → (marksD t)[i * 5 + k]? = (markD i).enc[k]?
  | t + 1, i, h, k, hk => by
    rw [marksD]
    by_cases hi : i < t
    · rw [List.getElem?_append_left (by rw [marksD_length]; omega)]; exact marksD_at t i hi k hk
    · obtain rfl : i = t := by omega
      rw [List.getElem?_append_right (by rw [marksD_length]; omega), marksD_length, show i * 5 + k - i * 5 = k by omega]; rfl
theorem dev_eq (x : Dev) (w : World) : (binOp .eql 31 (.agg x.enc.toArray) (.agg x.enc.toArray)).run Try.prog w = .ok (.bool true) w := by
  unfold Dev.enc
  go_simp
set_option maxRecDepth 100000 in
set_option maxHeartbeats 8000000 in
theorem keptD_is (A : Option Addr) (n cc g cap : Nat) (D : Nat → Dev) (hn : n ≤ 1000) (w0 w : World) (hL : LentD w0 w D n g cap) (hd : 0 < n → ∃ b o, A = some ⟨b, o, none⟩ ∧ ∀ j u, (devL D n)[j]? = some u → w.cell? ⟨b, o + j, none⟩ = some u) :
    Calls Try.prog 24 #[.slice (some ⟨g, 0, none⟩) n cap, .slice A n cc] w fun e w' => e = .returned (.bool true) ∧ Upd Non w w' := by
  obtain ⟨A7, c7, e7, h7⟩ := own_cells hL.own
  obtain ⟨g7, rfl, _, _, _, h8⟩ := h7 (by omega)
  simp only [Value.slice.injEq, Option.some.injEq, Addr.mk.injEq, and_true, true_and] at e7
  obtain ⟨rfl, rfl⟩ := e7
  have hcap := (own_cap hL.own).1
  have HD := Lib.hid hd
  have H8 := Lib.hid h8
  clear hL h7 h8 hd
  have z0 : ((n : Int) != (n : Int)) = false := by simp
  have k2 : (n : Int) + 12 ≤ cap := by omega
  have k3 : n + 12 ≤ cap := by omega
  go_enter Try.func24, Try.ntmps24
  go_wp2_with fail
  go_loopw [6] (fun i wr => ∃ t : Nat, t ≤ n + 12 ∧ i = .int .i64 t ∧ Upd Non w wr) (fun i _ => n + 12 - (intOf i).toNat)
  case atStart => exact ⟨0, Nat.zero_le _, rfl, Upd.refl _ _⟩
  case round =>
    obtain ⟨t, ht, rfl, hU⟩ := hrel
    have HU := Lib.hid hU
    clear hU
    by_cases hlt : t < n + 12
    case neg =>
      have k1 : ¬ (t : Int) < (n : Int) + 12 := by omega
      go_wp2_with fail
      go_ret
      exact ⟨rfl, HU.out⟩
    have k1 : (t : Int) < (n : Int) + 12 := by omega
    by_cases ht2 : t < n
    · have k4 : (t : Int) < n := by omega
      obtain ⟨b2, o2, rfl, h2⟩ := HD.out (by omega)
      obtain ⟨x, hx⟩ : ∃ x, x = D t := ⟨_, rfl⟩
      have hk : ∀ k u, x.enc[k]? = some u → (devL D n)[t * 5 + k]? = some u := fun k u hu => by
        have hk5 : k < 5 := by have := (List.getElem?_eq_some_iff.1 hu).1; exact this
        rw [devL_at D n t ht2 k hk5, ← hx]; exact hu
      have R1 := Lib.hid (show w.rangeAt g (t * 5) x.enc from fun k u hu => H8.out _ u ((List.getElem?_append_left (by have := (List.getElem?_eq_some_iff.1 (hk k u hu)).1; exact this)).trans (hk k u hu)))
      have R2 := Lib.hid (show w.rangeAt b2 (o2 + t * 5) x.enc from fun k u hu => by rw [Nat.add_assoc]; exact h2 _ u (hk k u hu))
      have R3 := Lib.hid (show wr.rangeAt g (t * 5) x.enc from fun k u hu => HU.out.cell_eq id (R1.out k u hu))
      have R4 := Lib.hid (show wr.rangeAt b2 (o2 + t * 5) x.enc from fun k u hu => HU.out.cell_eq id (R2.out k u hu))
      have EQ := Lib.hid (fun w => dev_eq x w)
      have y1 : decide (n ≤ t) = false := decide_eq_false (by omega)
      have y2 : decide ((t : Int) < n) = true := decide_eq_true k4
      clear h2 hk hx
      go_wp2_with fail
      refine wp_region_grow (by kernel_rfl) (by kernel_rfl) ?_
      repeat (first
        | (go_big_quiet_want; refine quiet_mid 31 _ rfl g (t * 5) rfl x.enc _ R3.out Try.underlying31 rfl (by kernel_rfl) ?_; go_simp; go_big_quiet_on)
        | (go_big_quiet_want; refine quiet_mid 31 _ rfl b2 (o2 + t * 5) rfl x.enc _ R4.out Try.underlying31 rfl (by kernel_rfl) ?_; go_simp; go_big_quiet_on)
        | (go_big_quiet_want; refine quiet_eq .eql 31 31 _ _ rfl x.enc.toArray x.enc.toArray (.bool true) rfl rfl Try.eqGuardType31 EQ.out ?_; go_simp; go_big_quiet_on)
        | go_big_quiet_step (fail))
      refine wpQuiet_nil ?_
      rintro ⟨w9, hU9⟩
      show Exit.then _ _ _ _ w9
      have HU9 := Lib.hid (Upd.call hU9 HU.out fun _ _ h => h)
      clear hU9
      go_wp2_with fail
      exact ⟨⟨t + 1, by omega, rfl, HU9.out⟩, by simp only [intOf]; omega⟩
    · have k4 : ¬ (t : Int) < n := by omega
      obtain ⟨j, rfl⟩ : ∃ j, t = n + j := ⟨t - n, by omega⟩
      have hj : j < 12 := by omega
      have MD := Lib.hid (show w.rangeAt g ((n + j) * 5) (markD j).enc from fun k u hu => by
        have hk5 : k < 5 := by have := (List.getElem?_eq_some_iff.1 hu).1; exact this
        refine H8.out _ u ((List.getElem?_append_right (by rw [devL_length]; omega)).trans ?_)
        rw [devL_length, show (n + j) * 5 + k - n * 5 = j * 5 + k by omega, marksD_at 12 j hj k hk5]; exact hu)
      have R3 := Lib.hid (show wr.rangeAt g ((n + j) * 5) (markD j).enc from fun k u hu => HU.out.cell_eq id (MD.out k u hu))
      have EQ := Lib.hid (fun w => dev_eq (markD j) w)
      have M := Lib.hid (fun W => (show Calls Try.prog 38 #[.int .i64 1, .int .i64 ((n : Int) + (j : Int) - (n : Int))] W (fun e w' => e = .returned (.agg (markD j).enc.toArray) ∧ Upd Non W w') by
        rw [show (n : Int) + (j : Int) - (n : Int) = (j : Int) by omega]
        exact markD1_is j (by omega) W))
      have hj2 : (j : Int) < 12 := by omega
      clear HD k4 ht2 H8
      go_wp2_with fail
      have y1 : decide ((n : Int) + (j : Int) < n) = false := decide_eq_false (by omega)
      have y2 : decide ((n : Int) ≤ (n : Int) + (j : Int)) = true := decide_eq_true (by omega)
      refine wp_region_grow (by kernel_rfl) (by kernel_rfl) ?_
      repeat (first
        | (go_big_quiet_want; refine quiet_mid 31 _ rfl g ((n + j) * 5) rfl (markD j).enc _ R3.out Try.underlying31 rfl (by kernel_rfl) ?_; go_simp; go_big_quiet_on)
        | (go_big_quiet_want; refine quiet_eq .eql 31 31 _ _ rfl (markD j).enc.toArray (markD j).enc.toArray (.bool true) rfl rfl Try.eqGuardType31 EQ.out ?_; go_simp; go_big_quiet_on)
        | go_big_quiet_step ((go_at_call 38; exact Grown.call (M.out _))))
      refine wpQuiet_nil ?_
      rintro ⟨w9, hU9⟩
      show Exit.then _ _ _ _ w9
      have HU9 := Lib.hid (Upd.call hU9 HU.out fun _ _ h => h)
      clear hU9 y1 y2
      go_wp2_with fail
      exact ⟨⟨n + j + 1, by omega, rfl, HU9.out⟩, by simp only [intOf]; omega⟩
end Go.Proofs.Ytkhhmkcpbefadaa
