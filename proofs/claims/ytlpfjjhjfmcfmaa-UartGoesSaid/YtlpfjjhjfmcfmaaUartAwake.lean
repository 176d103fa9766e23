/- The uart's example; two rows of bytes held against one another. Conditions: what is read is known. -/
import Derived.Test.YtlpfjjhjfmcfmaaUartMore
namespace Go.Proofs.Ytlpfjjhjfmcfmaa
open Go.RowKit
theorem same_bytes (A B : Option Addr) (n ca cb : Nat) (X : Nat → Int) (hn : n ≤ 5000) (w : World) (hA : 0 < n → ∃ b o, A = some ⟨b, o, none⟩ ∧ b < w.heap.size ∧ ∀ j, j < n → w.cell? ⟨b, o + j, none⟩ = some (.int .u8 (X j)))
    (hB : 0 < n → ∃ b o, B = some ⟨b, o, none⟩ ∧ b < w.heap.size ∧ ∀ j, j < n → w.cell? ⟨b, o + j, none⟩ = some (.int .u8 (X j))) :
    Calls Try.prog 15 #[.slice A n ca, .slice B n cb] w fun e w' => e = .returned (.bool true) ∧ Upd Non w w' := by
  have HA := Lib.hid hA
  have HB := Lib.hid hB
  clear hA hB
  go_enter Try.func15, Try.ntmps15
  go_wp2_with fail
  go_loopw [5] (fun i wr => ∃ t : Nat, t ≤ n ∧ i = .int .i64 t ∧ Upd Non w wr) (fun i _ => n - (intOf i).toNat)
  case atStart => exact ⟨0, Nat.zero_le _, rfl, Upd.refl _ _⟩
  case round =>
    obtain ⟨t, ht, rfl, hU⟩ := hrel
    have HU := Lib.hid hU
    clear hU
    by_cases hlt : t < n
    · have k1 : (t : Int) < n := by omega
      obtain ⟨b, o, rfl, _, h1⟩ := HA.out (by omega)
      obtain ⟨c, p, rfl, _, h2⟩ := HB.out (by omega)
      have c1 := HU.out.cell_eq id (h1 t hlt)
      have c2 := HU.out.cell_eq id (h2 t hlt)
      clear h1 h2 HA HB
      have hne : (X t != X t) = false := by simp
      go_wp2_with fail
      go_quiet (fail)
      go_wp2_with fail
      go_roundw
      case rel => exact ⟨t + 1, by omega, by go_num, HU.out.drewN⟩
      case measure => simp [intOf]; omega
    · have k1 : ¬ (t : Int) < n := by omega
      go_wp2_with fail
      go_ret
      exact ⟨rfl, HU.out⟩
/-- The example's uart behind so many ticks. -/
def uT (t : Nat) : US := ⟨[], if t < 4 then [7, 8] else if t < 8 then [8] else [], false, false, 1, t % 4⟩
section
variable {w W : World} {b f g h k : Nat} {s s' : US}
theorem tick_x (x : UX w W b f g h k s) (v : Int) (is : Bool) (h1 : (if s.ph = 3 then headI s.gs else 0) = v) (h2 : (if s.ph = 3 then someI s.gs else false) = is) (h3 : s.tc = s') : Calls Try.prog 16 #[.pointer (some ⟨b, 0, none⟩)] W fun e w' => e = .returned (.tuple #[.int .u8 v, .bool is]) ∧ ∃ g' k', UX w w' b f g' h k' s' := by
  subst h1 h2 h3
  exact (tick_u W x.m).mono fun _ _ ⟨e, m⟩ => by
    obtain ⟨g', k', _, _, y⟩ := x.uw m
    exact ⟨e, g', k', y⟩
end
set_option maxRecDepth 100000 in
set_option maxHeartbeats 16000000 in
theorem awake_u (w : World) : Calls Try.prog 9 #[] w fun e w' => e = .returned (.bool true) ∧ Upd Non w w' := by
  go_enter Try.func9, Try.ntmps9
  go_wp2_with fail
  refine (new_u w).mono ?_
  rintro e w1 ⟨b, f, g, h, k, rfl, x⟩
  have X1 := Lib.hid x
  clear x
  go_wp2_with fail
  refine (input_u 65 (by decide) _ X1.out.m).mono ?_
  rintro e w2 ⟨rfl, m⟩
  obtain ⟨g2, k2, _, _, x⟩ := X1.out.uw m
  have X2 := Lib.hid (show UX w w2 b f g2 h k2 ⟨[65], [], false, false, 0, 0⟩ from x)
  clear m x X1
  rw [show decide ((US.fresh).cs.length < 8) = true from rfl]
  go_wp2_with fail
  refine (input_u 66 (by decide) _ X2.out.m).mono ?_
  rintro e w3 ⟨rfl, m⟩
  obtain ⟨g3, k3, _, _, x⟩ := X2.out.uw m
  have X3 := Lib.hid (show UX w w3 b f g3 h k3 ⟨[65, 66], [], false, false, 0, 0⟩ from x)
  clear m x X2
  rw [show decide ((⟨[65], [], false, false, 0, 0⟩ : US).cs.length < 8) = true from rfl]
  go_wp2_with fail
  refine (write2_u 1 (by decide) (by decide) _ X3.out.m).mono ?_
  rintro e w4 ⟨rfl, m⟩
  obtain ⟨g4, k4, _, _, x⟩ := X3.out.uw m
  have X4 := Lib.hid (show UX w w4 b f g4 h k4 ⟨[65, 66], [], false, false, 1, 0⟩ from x)
  clear m x X3
  go_wp2_with fail
  refine (line_u _ X4.out.m).mono ?_
  rintro e w5 ⟨rfl, rfl⟩
  rw [show (decide ((⟨[65, 66], [], false, false, 1, 0⟩ : US).ctrl = 1) && decide (0 < (⟨[65, 66], [], false, false, 1, 0⟩ : US).cs.length)) = true from rfl]
  go_wp2_with fail
  refine (read0_u _ X4.out.m).mono ?_
  rintro e w5 ⟨rfl, m⟩
  obtain ⟨g5, k5, _, _, x⟩ := X4.out.uw m
  have X5 := Lib.hid (show UX w w5 b f g5 h k5 ⟨[66], [], false, false, 1, 0⟩ from x)
  clear m x X4
  rw [show US.tkv ⟨[65, 66], [], false, false, 1, 0⟩ = 321 from rfl]
  go_wp2_with fail
  refine (read0_u _ X5.out.m).mono ?_
  rintro e w6 ⟨rfl, m⟩
  obtain ⟨g6, k6, _, _, x⟩ := X5.out.uw m
  have X6 := Lib.hid (show UX w w6 b f g6 h k6 ⟨[], [], false, false, 1, 0⟩ from x)
  clear m x X5
  rw [show US.tkv ⟨[66], [], false, false, 1, 0⟩ = 322 from rfl]
  go_wp2_with fail
  refine (read0_u _ X6.out.m).mono ?_
  rintro e w7 ⟨rfl, m⟩
  obtain ⟨g7, k7, _, _, x⟩ := X6.out.uw m
  have X7 := Lib.hid (show UX w w7 b f g7 h k7 ⟨[], [], false, false, 1, 0⟩ from x)
  clear m x X6
  rw [show US.tkv ⟨[], [], false, false, 1, 0⟩ = 0 from rfl]
  go_wp2_with fail
  refine (write0_u 7 _ X7.out.m).mono ?_
  rintro e w8 ⟨rfl, m⟩
  obtain ⟨g8, k8, _, _, x⟩ := X7.out.uw m
  have X8 := Lib.hid (show UX w w8 b f g8 h k8 ⟨[], [7], false, false, 1, 0⟩ from x)
  clear m x X7
  go_wp2_with fail
  refine (write0_u 8 _ X8.out.m).mono ?_
  rintro e w9 ⟨rfl, m⟩
  obtain ⟨g9, k9, _, _, x⟩ := X8.out.uw m
  have X9 := Lib.hid (show UX w w9 b f g9 h k9 (uT 0) from x)
  clear m x X8
  go_wp2_with fail
  go_loopw [8, 9, 10, 11] (fun n i _ _ wr => ∃ (t g k : Nat), t ≤ 8 ∧ i = .int .i64 ((t : Int) + 1) ∧ n = .int .i64 ((t / 4 : Nat) : Int) ∧ UX w wr b f g h k (uT t)) (fun _ i _ _ _ => 9 - (intOf i).toNat)
  case atStart => exact ⟨0, g9, k9, by omega, rfl, rfl, X9.out⟩
  case round =>
    clear X9
    obtain ⟨t, g, k, ht, rfl, rfl, x⟩ := hrel
    have X := Lib.hid x
    clear x
    by_cases hlt : t < 8
    case neg =>
      obtain rfl : t = 8 := by omega
      go_wp2_with fail
      refine (line_u _ X.out.m).mono ?_
      rintro e w5 ⟨rfl, rfl⟩
      rw [show (decide ((uT 8).ctrl = 1) && decide (0 < (uT 8).cs.length)) = false from rfl]
      go_wp2_with fail
      go_ret
      exact ⟨rfl, X.out.up⟩
    rcases (show t = 0 ∨ t = 1 ∨ t = 2 ∨ t = 3 ∨ t = 4 ∨ t = 5 ∨ t = 6 ∨ t = 7 by omega) with rfl | rfl | rfl | rfl | rfl | rfl | rfl | rfl
    · go_wp2_with fail
      refine (tick_x (s' := uT 1) X.out 0 false rfl rfl rfl).mono ?_
      rintro e w2 ⟨rfl, g2, k2, x2⟩
      have X2 := Lib.hid x2
      clear x2 X
      go_wp2_with fail
      exact ⟨⟨1, g2, k2, by omega, rfl, rfl, X2.out⟩, by simp [intOf]⟩
    · go_wp2_with fail
      refine (tick_x (s' := uT 2) X.out 0 false rfl rfl rfl).mono ?_
      rintro e w2 ⟨rfl, g2, k2, x2⟩
      have X2 := Lib.hid x2
      clear x2 X
      go_wp2_with fail
      exact ⟨⟨2, g2, k2, by omega, rfl, rfl, X2.out⟩, by simp [intOf]⟩
    · go_wp2_with fail
      refine (tick_x (s' := uT 3) X.out 0 false rfl rfl rfl).mono ?_
      rintro e w2 ⟨rfl, g2, k2, x2⟩
      have X2 := Lib.hid x2
      clear x2 X
      go_wp2_with fail
      exact ⟨⟨3, g2, k2, by omega, rfl, rfl, X2.out⟩, by simp [intOf]⟩
    · go_wp2_with fail
      refine (tick_x (s' := uT 4) X.out 7 true rfl rfl rfl).mono ?_
      rintro e w2 ⟨rfl, g2, k2, x2⟩
      have X2 := Lib.hid x2
      clear x2 X
      go_wp2_with fail
      exact ⟨⟨4, g2, k2, by omega, rfl, rfl, X2.out⟩, by simp [intOf]⟩
    · go_wp2_with fail
      refine (tick_x (s' := uT 5) X.out 0 false rfl rfl rfl).mono ?_
      rintro e w2 ⟨rfl, g2, k2, x2⟩
      have X2 := Lib.hid x2
      clear x2 X
      go_wp2_with fail
      exact ⟨⟨5, g2, k2, by omega, rfl, rfl, X2.out⟩, by simp [intOf]⟩
    · go_wp2_with fail
      refine (tick_x (s' := uT 6) X.out 0 false rfl rfl rfl).mono ?_
      rintro e w2 ⟨rfl, g2, k2, x2⟩
      have X2 := Lib.hid x2
      clear x2 X
      go_wp2_with fail
      exact ⟨⟨6, g2, k2, by omega, rfl, rfl, X2.out⟩, by simp [intOf]⟩
    · go_wp2_with fail
      refine (tick_x (s' := uT 7) X.out 0 false rfl rfl rfl).mono ?_
      rintro e w2 ⟨rfl, g2, k2, x2⟩
      have X2 := Lib.hid x2
      clear x2 X
      go_wp2_with fail
      exact ⟨⟨7, g2, k2, by omega, rfl, rfl, X2.out⟩, by simp [intOf]⟩
    · go_wp2_with fail
      refine (tick_x (s' := uT 8) X.out 8 true rfl rfl rfl).mono ?_
      rintro e w2 ⟨rfl, g2, k2, x2⟩
      have X2 := Lib.hid x2
      clear x2 X
      go_wp2_with fail
      exact ⟨⟨8, g2, k2, by omega, rfl, rfl, X2.out⟩, by simp [intOf]⟩
end Go.Proofs.Ytlpfjjhjfmcfmaa
