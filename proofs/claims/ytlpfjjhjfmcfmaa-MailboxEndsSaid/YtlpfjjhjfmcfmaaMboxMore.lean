/- A mailbox's New and Copy, the chapter's example, two rows held against one another. Conditions: what is read is known. -/
import Derived.Test.YtlpfjjhjfmcfmaaMboxState
import Derived.Deep.RegionHeld3
namespace Go.Proofs.Ytlpfjjhjfmcfmaa
open Go.RowKit
/-- A mailbox of the call's own. -/
structure MX (w W : World) (b f g : Nat) (s : MS) : Prop where
  m : MB W b f g s
  up : Upd Non w W
  lo : w.heap.size ≤ b ∧ w.heap.size ≤ f ∧ w.heap.size ≤ g
section
variable {w W W' : World} {b f g : Nat} {s s' : MS}
theorem MX.non (h : MX w W b f g s) (u : Upd Non W W') : MX w W' b f g s := ⟨h.m.non u, Upd.call u h.up fun _ _ h => h, h.lo⟩
theorem MX.mw (h : MX w W b f g s) (k : MW W W' b f g s') : ∃ g', (g' = g ∨ W.heap.size ≤ g') ∧ MX w W' b f g' s' := by
  obtain ⟨⟨g', hg, hm⟩, hu⟩ := k
  have hl := h.lo
  have hz := h.up.size
  exact ⟨g', hg, hm, Upd.call hu h.up (fun i hi e => by rcases e with e | e | e <;> omega), by omega⟩
theorem MX.base (h : MX W W' b f g s) (u : Upd Non w W) : MX w W' b f g s := ⟨h.m, Upd.call h.up u (fun _ _ h => h), by have := h.lo; have := u.size; omega⟩
theorem MX.lt (h : MX w W b f g s) : b < W.heap.size ∧ f < W.heap.size ∧ g < W.heap.size := ⟨h.m.B.lt, h.m.F.lt, h.m.F.glt⟩
theorem new_m (w : World) : Calls Try.prog 18 #[] w fun e w' => ∃ b f g, e = .returned (.pointer (some ⟨b, 0, none⟩)) ∧ MX w w' b f g MS.fresh := by
  go_enter Try.func18, Try.ntmps18
  go_wp2_with fail
  refine (new_any 4 (by unfold maxI; omega) _).mono ?_
  rintro e w1 ⟨rfl, hF, hU⟩
  have HF := Lib.hid hF
  have HU := Lib.hid hU
  have hl := hF.lt
  clear hF hU
  go_wp2_with fail
  go_ret
  refine ⟨w1.heap.size, w.heap.size, w.heap.size, rfl, ⟨⟨Blk.new _ _ _, HF.out.non (by ((with_reducible repeat' first | exact Upd.refl _ _ | apply Upd.drew | apply Upd.drewN | apply Upd.alloc | refine Upd.setCell ?_ ?_) <;> first | (intro _ _ h; exact h) | (intro _ _ h; exact h.elim) | (intro i h1 h2; exfalso; (try simp only at h2); omega) | (left; rfl) | (right; dsimp only; omega) | (right; omega))), by omega, MS.fresh_ok⟩, HU.out.alloc, by have := HU.out.size; omega⟩⟩
theorem cells3_non {w w' : World} {b : Nat} {x y z : Value} (u : Upd Non w w') (h : w.cell? ⟨b, 0, none⟩ = some x ∧ w.cell? ⟨b, 1, none⟩ = some y ∧ w.cell? ⟨b, 2, none⟩ = some z) : w'.cell? ⟨b, 0, none⟩ = some x ∧ w'.cell? ⟨b, 1, none⟩ = some y ∧ w'.cell? ⟨b, 2, none⟩ = some z :=
  ⟨u.cell_eq id h.1, u.cell_eq id h.2.1, u.cell_eq id h.2.2⟩
set_option maxHeartbeats 4000000 in
theorem copy_m (w : World) (h : MB w b f g s) : Calls Try.prog 24 #[.pointer (some ⟨b, 0, none⟩)] w fun e w' => ∃ b f g, e = .returned (.pointer (some ⟨b, 0, none⟩)) ∧ MX w w' b f g s := by
  have H := Lib.hid h
  have hc : w.cell? ⟨b, 0, none⟩ = some (.pointer (some ⟨f, 0, none⟩)) ∧ w.cell? ⟨b, 1, none⟩ = some (.int .u32 s.ctrl) ∧ w.cell? ⟨b, 2, none⟩ = some (.int .u32 s.lost) := ⟨h.B.cell 0 rfl, h.B.cell 1 rfl, h.B.cell 2 rfl⟩
  have hl := h.le
  clear h
  go_enter Try.func24, Try.ntmps24
  go_wp2_with fail
  refine (there_m _ H.out).mono ?_
  rintro e w1 ⟨rfl, rfl⟩
  go_wp2_with fail
  go_region_held3 (fun w' => w'.cell? ⟨b, 0, none⟩ = some (.pointer (some ⟨f, 0, none⟩)) ∧ w'.cell? ⟨b, 1, none⟩ = some (.int .u32 s.ctrl) ∧ w'.cell? ⟨b, 2, none⟩ = some (.int .u32 s.lost)) (first | exact hc | exact cells3_non (Upd.alloc (Upd.refl Non _)) (by assumption) | exact cells3_non HU.out hc) (first
    | (go_at_call 53; refine (copy_any (by omega) w.drew (FI.non (Upd.refl _ _).drew H.out.F)).mono ?_; rintro e w5 ⟨rfl, ⟨g5, hg5, hF⟩, hU⟩; have HF := Lib.hid hF; have HU := Lib.hid (show Upd Non w w5 from Upd.call hU (Upd.refl _ _).drew fun _ _ h => h); clear hF hU))
  go_wp2_with fail
  go_ret
  have hfl := HF.out.lt
  have hdz : w.drew.heap.size = w.heap.size := rfl
  have hgl := HF.out.glt
  exact ⟨w5.heap.size, w.heap.size, g5, rfl, ⟨⟨Blk.new _ _ _, HF.out.non (by ((with_reducible repeat' first | exact Upd.refl _ _ | apply Upd.drew | apply Upd.drewN | apply Upd.alloc | refine Upd.setCell ?_ ?_) <;> first | (intro _ _ h; exact h) | (intro _ _ h; exact h.elim) | (intro i h1 h2; exfalso; (try simp only at h2); omega) | (left; rfl) | (right; dsimp only; omega) | (right; omega))), by omega, H.out.ok⟩, HU.out.alloc, by have := HU.out.size; exact ⟨by omega, Nat.le_refl _, hg5⟩⟩⟩
end
theorem same_limbs (A B : Option Addr) (n ca cb : Nat) (X : Nat → Int) (hn : n ≤ 5000) (w : World) (hA : 0 < n → ∃ b o, A = some ⟨b, o, none⟩ ∧ b < w.heap.size ∧ ∀ j, j < n → w.cell? ⟨b, o + j, none⟩ = some (.int .u32 (X j)))
    (hB : 0 < n → ∃ b o, B = some ⟨b, o, none⟩ ∧ b < w.heap.size ∧ ∀ j, j < n → w.cell? ⟨b, o + j, none⟩ = some (.int .u32 (X j))) :
    Calls Try.prog 23 #[.slice A n ca, .slice B n cb] w fun e w' => e = .returned (.bool true) ∧ Upd Non w w' := by
  have HA := Lib.hid hA
  have HB := Lib.hid hB
  clear hA hB
  go_enter Try.func23, Try.ntmps23
  go_wp2_with fail
  go_loopw [5] (fun i wr => ∃ t : Nat, t ≤ n ∧ i = .int .i64 t ∧ Upd Non w wr) (fun i _ => n - (intOf i).toNat)
  case atStart => exact ⟨0, Nat.zero_le _, rfl, Upd.refl _ _⟩
  case round =>
    obtain ⟨t, ht, rfl, hU⟩ := hrel
    have HU := Lib.hid hU
    clear hU
    by_cases hlt : t < n
    · have k1 : (t : Int) < n := by omega
      obtain ⟨b, o, rfl, _, h1⟩ := HA.out (by omega)
      obtain ⟨c, p, rfl, _, h2⟩ := HB.out (by omega)
      have c1 := HU.out.cell_eq id (h1 t hlt)
      have c2 := HU.out.cell_eq id (h2 t hlt)
      clear h1 h2 HA HB
      have hne : (X t != X t) = false := by simp
      go_wp2_with fail
      go_quiet (fail)
      go_wp2_with fail
      go_roundw
      case rel => exact ⟨t + 1, by omega, by go_num, HU.out.drewN⟩
      case measure => simp [intOf]; omega
    · have k1 : ¬ (t : Int) < n := by omega
      go_wp2_with fail
      go_ret
      exact ⟨rfl, HU.out⟩
/-- The example's mailbox, behind so many words. -/
def awS : Nat → MS
  | 0 => MS.fresh
  | t + 1 => (awS t).wr 0 (t + 1 : Nat)
theorem awS_end : awS 5 = ⟨[1, 2, 3, 4], 0, 1⟩ := by kernel_rfl
set_option maxRecDepth 100000 in
set_option maxHeartbeats 4000000 in
theorem awake_m (w : World) : Calls Try.prog 17 #[] w fun e w' => e = .returned (.bool true) ∧ Upd Non w w' := by
  go_enter Try.func17, Try.ntmps17
  go_wp2_with fail
  refine (new_m w).mono ?_
  rintro e w1 ⟨b, f, g, rfl, h⟩
  have H := Lib.hid h
  clear h
  go_wp2_with fail
  go_loopw [2] (fun i wr => ∃ t g' : Nat, t ≤ 5 ∧ i = .int .u32 ((t : Int) + 1) ∧ MX w wr b f g' (awS t)) (fun i _ => 6 - (intOf i).toNat)
  case atStart => exact ⟨0, g, by omega, rfl, H.out⟩
  case round =>
    clear H
    obtain ⟨t, g', ht, rfl, h⟩ := hrel
    have H := Lib.hid h
    clear h
    by_cases hlt : t < 5
    case pos =>
      have k1 : (t : Int) + 1 < 6 := by omega
      have k2 : IntKind.u32.wrap ((t : Int) + 1 + 1) = (t : Int) + 1 + 1 := by rw [IntKind.wrap_u32]; omega
      go_wp2_with fail
      refine (write_m 0 ((t : Int) + 1) (by omega) (by omega) _ H.out.m).mono ?_
      rintro e w2 ⟨rfl, hW⟩
      obtain ⟨g2, _, h2⟩ := H.out.mw hW
      have H2 := Lib.hid h2
      clear h2 hW H
      go_wp2_with fail
      refine ⟨⟨t + 1, g2, by omega, by simp, H2.out⟩, by simp only [intOf]; omega⟩
    have k1 : ¬ (t : Int) + 1 < 6 := by omega
    obtain rfl : t = 5 := by omega
    have H := Lib.hid (awS_end ▸ H.out : MX w wr b f g' ⟨[1, 2, 3, 4], 0, 1⟩)
    go_wp2_with fail
    refine (read_m 1 _ H.out.m).mono ?_
    rintro e w2 ⟨rfl, _, hu⟩
    have H2 := Lib.hid (H.out.non (hu (by decide)))
    clear hu H
    rw [show (⟨[1, 2, 3, 4], 0, 1⟩ : MS).rd 1 = 4 by kernel_rfl]
    go_wp2_with fail
    refine (read_m 3 _ H2.out.m).mono ?_
    rintro e w3 ⟨rfl, _, hu⟩
    have H3 := Lib.hid (H2.out.non (hu (by decide)))
    clear hu H2
    rw [show (⟨[1, 2, 3, 4], 0, 1⟩ : MS).rd 3 = 1 by kernel_rfl]
    go_wp2_with fail
    refine (read_m 0 _ H3.out.m).mono ?_
    rintro e w4 ⟨rfl, hW, _⟩
    obtain ⟨g4, _, h4⟩ := H3.out.mw hW
    have H4 := Lib.hid (show MX w w4 b f g4 ⟨[2, 3, 4], 0, 1⟩ from h4)
    clear hW h4 H3
    rw [show (⟨[1, 2, 3, 4], 0, 1⟩ : MS).rd 0 = 1 by kernel_rfl]
    go_wp2_with fail
    refine (read_m 1 _ H4.out.m).mono ?_
    rintro e w5 ⟨rfl, _, hu⟩
    have H5 := Lib.hid (H4.out.non (hu (by decide)))
    clear hu H4
    rw [show (⟨[2, 3, 4], 0, 1⟩ : MS).rd 1 = 3 by kernel_rfl]
    go_wp2_with fail
    go_ret
    exact ⟨rfl, H5.out.up⟩
end Go.Proofs.Ytlpfjjhjfmcfmaa
