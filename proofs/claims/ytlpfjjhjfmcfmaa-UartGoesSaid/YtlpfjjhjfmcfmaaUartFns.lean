/- A uart: its memory as a structure, and the contracts of its small functions. Conditions: the uart's blocks are known. -/
import Derived.Test.YtlpfjjhjfmcfmaaFifoBAny
import Derived.Test.YtlpfjjhjfmcfmaaUMap
import Derived.Deep.RegionHeld3
import Derived.Test.YtlpfjjhjfmcfmaaGrow
namespace Go.Proofs.Ytlpfjjhjfmcfmaa
open Go.RowKit
/-- What a uart has: bytes that came, bytes that go; what was lost. -/
structure US where
  cs : List Int
  gs : List Int
  li : Bool
  lo : Bool
  ctrl : Int
  ph : Nat
def US.fresh : US := ⟨[], [], false, false, 0, 0⟩
def lostOf (li lo : Bool) : Int := (if li then 65536 else 0) + (if lo then 131072 else 0)
def US.lost (s : US) : Int := lostOf s.li s.lo
structure US.ok (s : US) : Prop where
  c0 : 0 ≤ s.ctrl
  c1 : s.ctrl ≤ 1
  ph : s.ph < 4
  bc : ∀ x ∈ s.cs, 0 ≤ x ∧ x < 256
theorem US.fresh_ok : US.fresh.ok := ⟨by decide, by decide, by decide, fun x h => by cases h⟩
/-- A uart at block b; the fifos at f and h, their rings at g and k. -/
structure UB (w : World) (b f g h k : Nat) (s : US) : Prop where
  B : Blk w b #[.int .u32 s.lost, .int .u32 s.ctrl, .int .i64 s.ph, .pointer (some ⟨f, 0, none⟩), .pointer (some ⟨h, 0, none⟩)] 63
  F : FI w f s.cs 8 g
  G : FI w h s.gs 8 k
  ne : b ≠ f ∧ b ≠ g ∧ b ≠ h ∧ b ≠ k ∧ f ≠ h ∧ f ≠ k ∧ g ≠ h ∧ g ≠ k
  ok : s.ok
/-- A uart of the call's own. -/
structure UX (w W : World) (b f g h k : Nat) (s : US) : Prop where
  m : UB W b f g h k s
  up : Upd Non w W
  lo : w.heap.size ≤ b ∧ w.heap.size ≤ f ∧ w.heap.size ≤ g ∧ w.heap.size ≤ h ∧ w.heap.size ≤ k
section
variable {w W W' : World} {b f g h k : Nat} {s s' : US}
abbrev UB.blocks (b f g h k : Nat) : Nat → Prop := fun i => i = b ∨ i = f ∨ i = g ∨ i = h ∨ i = k
/-- The uart alone may have turned. -/
structure UW (w w' : World) (b f g h k : Nat) (s' : US) : Prop where
  m : ∃ g' k', (g' = g ∨ w.heap.size ≤ g') ∧ (k' = k ∨ w.heap.size ≤ k') ∧ UB w' b f g' h k' s'
  u : Upd (UB.blocks b f g h k) w w'
theorem UB.upd {S : Nat → Prop} (u : Upd S w W) (x : UB w b f g h k s) (hb : ∀ i, UB.blocks b f g h k i → ¬ S i) : UB W b f g h k s :=
  ⟨Blk.upd u x.B (hb _ (.inl rfl)), x.F.upd u (hb _ (.inr (.inl rfl))) (hb _ (.inr (.inr (.inl rfl)))), x.G.upd u (hb _ (.inr (.inr (.inr (.inl rfl))))) (hb _ (.inr (.inr (.inr (.inr rfl))))), x.ne, x.ok⟩
theorem UB.non (u : Upd Non w W) (x : UB w b f g h k s) : UB W b f g h k s := x.upd u fun _ _ => id
theorem UB.lt (x : UB w b f g h k s) : b < w.heap.size ∧ f < w.heap.size ∧ g < w.heap.size ∧ h < w.heap.size ∧ k < w.heap.size := ⟨x.B.lt, x.F.lt, x.F.glt, x.G.lt, x.G.glt⟩
theorem UB.same (x : UB w b f g h k s) : UW w w b f g h k s := ⟨⟨g, k, .inl rfl, .inl rfl, x⟩, Upd.refl _ _⟩
theorem UX.non (x : UX w W b f g h k s) (u : Upd Non W W') : UX w W' b f g h k s := ⟨x.m.non u, Upd.call u x.up fun _ _ h => h, x.lo⟩
theorem UX.uw (x : UX w W b f g h k s) (m : UW W W' b f g h k s') : ∃ g' k', (g' = g ∨ W.heap.size ≤ g') ∧ (k' = k ∨ W.heap.size ≤ k') ∧ UX w W' b f g' h k' s' := by
  obtain ⟨⟨g', k', hg, hk, hm⟩, hu⟩ := m
  have hl := x.lo
  have hz := x.up.size
  exact ⟨g', k', hg, hk, hm, Upd.call hu x.up (fun i hi e => by rcases e with e | e | e | e | e <;> omega), by omega⟩
theorem UW.base (u : Upd Non w W) (x : UW W W' b f g h k s') : UW w W' b f g h k s' := by
  obtain ⟨⟨g', k', hg, hk, hm⟩, hu⟩ := x
  exact ⟨⟨g', k', by have := u.size; omega, by have := u.size; omega, hm⟩, Upd.trans u hu (fun _ h => h.elim) fun _ _ h => h⟩
theorem there_u (w : World) (x : UB w b f g h k s) : Calls Try.prog 31 #[.pointer (some ⟨b, 0, none⟩)] w fun e w' => e = .returned (.bool true) ∧ w = w' := by
  have c0 := x.B.cell 3 rfl
  clear x
  go_enter Try.func31, Try.ntmps31
  go_wp2
  go_ret
  exact ⟨rfl, rfl⟩
theorem control_u (w : World) (x : UB w b f g h k s) : Calls Try.prog 37 #[.pointer (some ⟨b, 0, none⟩)] w fun e w' => e = .returned (.int .u32 s.ctrl) ∧ w = w' := by
  have c0 := x.B.cell 1 rfl
  clear x
  go_enter Try.func37, Try.ntmps37
  go_wp2
  go_ret
  exact ⟨rfl, rfl⟩
/-- The word of status. -/
def US.st (s : US) : Int := s.cs.length + 256 * s.gs.length + s.lost
theorem lost_le (s : US) : 0 ≤ s.lost ∧ s.lost ≤ 196608 := by unfold US.lost; cases s.li <;> cases s.lo <;> decide
theorem status_u (w : World) (x : UB w b f g h k s) : Calls Try.prog 36 #[.pointer (some ⟨b, 0, none⟩)] w fun e w' => e = .returned (.int .u32 s.st) ∧ Upd Non w w' := by
  have c0 := x.B.cell 0 rfl
  have c3 := x.B.cell 3 rfl
  have c4 := x.B.cell 4 rfl
  have hl := lost_le s
  have hf := x.F.le
  have hg := x.G.le
  obtain ⟨m, hm⟩ : ∃ m, m = s.cs.length := ⟨_, rfl⟩
  obtain ⟨n, hn⟩ : ∃ n, n = s.gs.length := ⟨_, rfl⟩
  have E := Lib.hid (show s.st = (m : Int) + 256 * n + s.lost by rw [hm, hn]; rfl)
  have PF := Lib.hid (fun G : Grown w => (show Calls Try.prog 39 #[.pointer (some ⟨f, 0, none⟩)] G.W fun e w' => e = .returned (.int .i64 (m : Int)) ∧ G.W = w' by rw [hm]; exact len_any _ (x.F.non G.h)))
  have PG := Lib.hid (fun G : Grown w => (show Calls Try.prog 39 #[.pointer (some ⟨h, 0, none⟩)] G.W fun e w' => e = .returned (.int .i64 (n : Int)) ∧ G.W = w' by rw [hn]; exact len_any _ (x.G.non G.h)))
  have a0 : ∀ G : Grown w, G.W.cell? ⟨b, 0, none⟩ = some (.int .u32 s.lost) := fun G => G.cell c0
  have a3 : ∀ G : Grown w, G.W.cell? ⟨b, 3, none⟩ = some (.pointer (some ⟨f, 0, none⟩)) := fun G => G.cell c3
  have a4 : ∀ G : Grown w, G.W.cell? ⟨b, 4, none⟩ = some (.pointer (some ⟨h, 0, none⟩)) := fun G => G.cell c4
  have e1 : IntKind.u32.wrap (m : Int) = (m : Int) := by rw [IntKind.wrap_u32]; omega
  have e2 : IntKind.u32.wrap (n : Int) = (n : Int) := by rw [IntKind.wrap_u32]; omega
  have e3 : IntKind.u32.wrap (256 * (n : Int)) = 256 * (n : Int) := by rw [IntKind.wrap_u32]; omega
  have e4 : IntKind.u32.wrap ((m : Int) + 256 * n) = (m : Int) + 256 * n := by rw [IntKind.wrap_u32]; omega
  have e5 : IntKind.u32.wrap ((m : Int) + 256 * n + s.lost) = (m : Int) + 256 * n + s.lost := by rw [IntKind.wrap_u32]; omega
  clear x c0 c3 c4 hm hn hf hg
  generalize s.lost = L at *
  go_enter Try.func36, Try.ntmps36
  go_wp2_with fail
  refine wp_region_grow (by kernel_rfl) (by kernel_rfl) ?_
  repeat go_big_quiet_step ((first
    | (go_at_call 39; first | with_reducible exact Grown.call_same (PF.out _) | with_reducible exact Grown.call_same (PG.out _))))
  refine wpQuiet_nil ?_
  rintro ⟨w9, hU9⟩
  have HU9 := Lib.hid hU9
  show Exit.then _ _ _ _ w9
  clear hU9
  go_wp2_with fail
  go_ret
  rw [E.out]
  exact ⟨rfl, HU9.out⟩
/-- What is read of the bytes that came. -/
def US.tkv (s : US) : Int := if someI s.cs then 256 + headI s.cs else 0
def US.tk (s : US) : US := { s with cs := s.cs.tail }
theorem US.tk_ok (h : s.ok) : s.tk.ok := ⟨h.c0, h.c1, h.ph, fun x hx => h.bc x (List.mem_of_mem_tail hx)⟩
theorem taken_u (w : World) (x : UB w b f g h k s) : Calls Try.prog 35 #[.pointer (some ⟨b, 0, none⟩)] w fun e w' => e = .returned (.int .u32 s.tkv) ∧ UW w w' b f g h k s.tk := by
  have c3 := x.B.cell 3 rfl
  have X := Lib.hid x
  clear x
  have hb : s.cs = [] ∨ ∃ y l, s.cs = y :: l := by
    cases s.cs with
    | nil => exact .inl rfl
    | cons y l => exact .inr ⟨y, l, rfl⟩
  go_enter Try.func35, Try.ntmps35
  go_wp2_with fail
  refine (take_any05 _ X.out.F).mono ?_
  rintro e w1 ⟨rfl, hF, hU⟩
  have hne := X.out.ne
  have HW := Lib.hid (show UW w w1 b f g h k s.tk from ⟨⟨g, k, .inl rfl, .inl rfl, Blk.upd hU X.out.B hne.1, hF, X.out.G.upd hU (fun e => hne.2.2.2.2.1 e.symm) (fun e => hne.2.2.2.2.2.1 e.symm), hne, US.tk_ok X.out.ok⟩, hU.mono fun _ _ h => .inr (.inl h)⟩)
  clear hF hU
  rcases hb with hx | ⟨y, l, hx⟩
  · have E := Lib.hid (show s.tkv = 0 by unfold US.tkv; rw [hx]; rfl)
    rw [show headI s.cs = 0 by rw [hx]; rfl, show someI s.cs = false by rw [hx]; rfl]
    clear hx
    go_wp2_with fail
    go_ret
    rw [E.out]
    exact ⟨rfl, HW.out⟩
  · have E := Lib.hid (show s.tkv = 256 + y by unfold US.tkv; rw [hx]; rfl)
    have hy := X.out.ok.bc y (by rw [hx]; exact List.mem_cons_self)
    have e1 : IntKind.u32.wrap y = y := by rw [IntKind.wrap_u32]; omega
    have e2 : IntKind.u32.wrap (256 + y) = 256 + y := by rw [IntKind.wrap_u32]; omega
    rw [show headI s.cs = y by rw [hx]; rfl, show someI s.cs = true by rw [hx]; rfl]
    clear hx hy
    go_wp2_with fail
    go_ret
    rw [E.out]
    exact ⟨rfl, HW.out⟩
/-- A byte comes. -/
def US.inp (s : US) (v : Int) : US := if s.cs.length < 8 then { s with cs := s.cs ++ [v] } else { s with li := true }
def US.snd (s : US) (v : Int) : US := if s.gs.length < 8 then { s with gs := s.gs ++ [v] } else { s with lo := true }
theorem or_of : ∀ li lo : Bool, bits .or .u32 (lostOf li lo) 65536 = lostOf true lo ∧ bits .or .u32 (lostOf li lo) 131072 = lostOf li true := by decide +kernel
theorem or_li (s : US) : bits .or .u32 s.lost 65536 = US.lost { s with li := true } := (or_of s.li s.lo).1
theorem or_lo (s : US) : bits .or .u32 s.lost 131072 = US.lost { s with lo := true } := (or_of s.li s.lo).2
set_option maxHeartbeats 4000000 in
theorem put_came (v : Int) (hv : 0 ≤ v ∧ v < 256) (w : World) (x : UB w b f g h k s) : Calls Try.prog 38 #[.pointer (some ⟨b, 0, none⟩), .pointer (some ⟨f, 0, none⟩), .int .u8 v, .int .u32 65536] w fun e w' => e = .returned (.bool (decide (s.cs.length < 8))) ∧ UW w w' b f g h k (s.inp v) := by
  have X := Lib.hid x
  have hl := x.F.le
  have hlt := x.lt
  have hne := x.ne
  clear x
  go_enter Try.func38, Try.ntmps38
  go_wp2_with fail
  refine (put_any05 v (by omega) _ X.out.F).mono ?_
  rintro e w1 ⟨rfl, ⟨g', hg, hF⟩, hU⟩
  have hB := Blk.upd hU X.out.B (fun e => by omega)
  have hG := X.out.G.upd hU (fun e => by omega) (fun e => by omega)
  have hne' : b ≠ f ∧ b ≠ g' ∧ b ≠ h ∧ b ≠ k ∧ f ≠ h ∧ f ≠ k ∧ g' ≠ h ∧ g' ≠ k := by omega
  have hu' : Upd (UB.blocks b f g h k) w w1 := hU.mono fun i _ e => by rcases e with e | e; exact .inr (.inl e); exact .inr (.inr (.inl e))
  by_cases hq : s.cs.length < 8
  · have E := Lib.hid (decide_eq_true hq)
    rw [decide_eq_true hq]
    rw [if_pos hq] at hF
    have HW := Lib.hid (show UW w w1 b f g h k (s.inp v) from ⟨⟨g', k, hg, .inl rfl, by
      unfold US.inp
      rw [if_pos hq]
      exact ⟨hB, hF, hG, hne', X.out.ok.c0, X.out.ok.c1, X.out.ok.ph, fun y hy => by
        rcases List.mem_append.1 hy with hy | hy
        · exact X.out.ok.bc y hy
        · have e : y = v := by simpa using hy
          rw [e]; exact hv⟩⟩, hu'⟩)
    clear hB hF hU hG hu' hq
    go_wp2_with fail
    go_ret
    rw [E.out]
    exact ⟨rfl, HW.out⟩
  · have E := Lib.hid (decide_eq_false hq)
    rw [decide_eq_false hq]
    rw [if_neg hq] at hF
    have c0 := hB.cell 0 rfl
    have q0 := hB.frozen 0
    have e1 := or_li s
    have HB := Lib.hid hB
    have HF := Lib.hid hF
    have HG := Lib.hid hG
    have HU := Lib.hid hu'
    clear hB hF hU hG hu'
    go_wp2_with fail
    go_ret
    rw [E.out]
    have hU2 : Upd (fun i => i = b) w1 (w1.setCell ⟨b, 0, none⟩ (.int .u32 (US.lost { s with li := true }))) := by ((with_reducible repeat' first | exact Upd.refl _ _ | apply Upd.drew | apply Upd.drewN | apply Upd.alloc | refine Upd.setCell ?_ ?_) <;> first | (intro _ _ h; exact h) | (intro _ _ h; exact h.elim) | (intro i h1 h2; exfalso; (try simp only at h2); omega) | (left; rfl) | (right; dsimp only; omega) | (right; omega))
    refine ⟨rfl, ⟨g', k, hg, .inl rfl, ?_⟩, Upd.trans HU.out hU2 (fun _ h => h) fun _ _ h => .inl h⟩
    unfold US.inp
    rw [if_neg hq]
    exact ⟨Blk.set HB.out, HF.out.upd hU2 (fun e => by omega) (fun e => by omega), HG.out.upd hU2 (fun e => by omega) (fun e => by omega), hne', X.out.ok.c0, X.out.ok.c1, X.out.ok.ph, X.out.ok.bc⟩
set_option maxHeartbeats 4000000 in
theorem put_goes (v : Int) (w : World) (x : UB w b f g h k s) : Calls Try.prog 38 #[.pointer (some ⟨b, 0, none⟩), .pointer (some ⟨h, 0, none⟩), .int .u8 v, .int .u32 131072] w fun e w' => e = .returned (.bool (decide (s.gs.length < 8))) ∧ UW w w' b f g h k (s.snd v) := by
  have X := Lib.hid x
  have hl := x.G.le
  have hlt := x.lt
  have hne := x.ne
  clear x
  go_enter Try.func38, Try.ntmps38
  go_wp2_with fail
  refine (put_any05 v (by omega) _ X.out.G).mono ?_
  rintro e w1 ⟨rfl, ⟨k', hk, hG⟩, hU⟩
  have hB := Blk.upd hU X.out.B (fun e => by omega)
  have hF := X.out.F.upd hU (fun e => by omega) (fun e => by omega)
  have hne' : b ≠ f ∧ b ≠ g ∧ b ≠ h ∧ b ≠ k' ∧ f ≠ h ∧ f ≠ k' ∧ g ≠ h ∧ g ≠ k' := by omega
  have hu' : Upd (UB.blocks b f g h k) w w1 := hU.mono fun i _ e => by rcases e with e | e; exact .inr (.inr (.inr (.inl e))); exact .inr (.inr (.inr (.inr e)))
  by_cases hq : s.gs.length < 8
  · have E := Lib.hid (decide_eq_true hq)
    rw [decide_eq_true hq]
    rw [if_pos hq] at hG
    have HW := Lib.hid (show UW w w1 b f g h k (s.snd v) from ⟨⟨g, k', .inl rfl, hk, by
      unfold US.snd
      rw [if_pos hq]
      exact ⟨hB, hF, hG, hne', X.out.ok.c0, X.out.ok.c1, X.out.ok.ph, X.out.ok.bc⟩⟩, hu'⟩)
    clear hB hF hU hG hu' hq
    go_wp2_with fail
    go_ret
    rw [E.out]
    exact ⟨rfl, HW.out⟩
  · have E := Lib.hid (decide_eq_false hq)
    rw [decide_eq_false hq]
    rw [if_neg hq] at hG
    have c0 := hB.cell 0 rfl
    have q0 := hB.frozen 0
    have e1 := or_lo s
    have HB := Lib.hid hB
    have HF := Lib.hid hF
    have HG := Lib.hid hG
    have HU := Lib.hid hu'
    clear hB hF hU hG hu'
    go_wp2_with fail
    go_ret
    rw [E.out]
    have hU2 : Upd (fun i => i = b) w1 (w1.setCell ⟨b, 0, none⟩ (.int .u32 (US.lost { s with lo := true }))) := by ((with_reducible repeat' first | exact Upd.refl _ _ | apply Upd.drew | apply Upd.drewN | apply Upd.alloc | refine Upd.setCell ?_ ?_) <;> first | (intro _ _ h; exact h) | (intro _ _ h; exact h.elim) | (intro i h1 h2; exfalso; (try simp only at h2); omega) | (left; rfl) | (right; dsimp only; omega) | (right; omega))
    refine ⟨rfl, ⟨g, k', .inl rfl, hk, ?_⟩, Upd.trans HU.out hU2 (fun _ h => h) fun _ _ h => .inl h⟩
    unfold US.snd
    rw [if_neg hq]
    exact ⟨Blk.set HB.out, HF.out.upd hU2 (fun e => by omega) (fun e => by omega), HG.out.upd hU2 (fun e => by omega) (fun e => by omega), hne', X.out.ok.c0, X.out.ok.c1, X.out.ok.ph, X.out.ok.bc⟩
theorem input_u (v : Int) (hv : 0 ≤ v ∧ v < 256) (w : World) (x : UB w b f g h k s) : Calls Try.prog 13 #[.pointer (some ⟨b, 0, none⟩), .int .u8 v] w fun e w' => e = .returned (.bool (decide (s.cs.length < 8))) ∧ UW w w' b f g h k (s.inp v) := by
  have c3 := x.B.cell 3 rfl
  have X := Lib.hid x
  clear x
  go_enter Try.func13, Try.ntmps13
  go_wp2_with fail
  refine (there_u _ X.out).mono ?_
  rintro e w1 ⟨rfl, rfl⟩
  go_wp2_with fail
  refine (put_came v hv _ X.out).mono ?_
  rintro e w1 ⟨rfl, hW⟩
  have HW := Lib.hid hW
  clear hW
  go_wp2_with fail
  go_ret
  exact ⟨rfl, HW.out⟩
theorem send_u (v : Int) (w : World) (x : UB w b f g h k s) : Calls Try.prog 32 #[.pointer (some ⟨b, 0, none⟩), .int .u32 v] w fun e w' => e = .returned (.tuple #[]) ∧ UW w w' b f g h k (s.snd (IntKind.u8.wrap v)) := by
  have c4 := x.B.cell 4 rfl
  have X := Lib.hid x
  clear x
  obtain ⟨u, hu⟩ : ∃ u, IntKind.u8.wrap v = u := ⟨_, rfl⟩
  rw [hu]
  go_enter Try.func32, Try.ntmps32
  go_wp2_with fail
  refine (put_goes u _ X.out).mono ?_
  rintro e w1 ⟨rfl, hW⟩
  have HW := Lib.hid hW
  clear hW
  go_wp2_with fail
  go_end0
  exact ⟨rfl, HW.out⟩
def US.se (s : US) (v : Int) : US := { s with ctrl := v % 2 }
theorem and_1u {v : Int} (h0 : 0 ≤ v) (h1 : v < 4294967296) : bits .and .u32 v 1 = v % 2 := bits_mask .u32 32 (by decide) (fun n h0 h1 => by rw [IntKind.wrap_u32]; omega) 1 (by decide) v h0 h1
theorem set_u (v : Int) (h0 : 0 ≤ v) (h1 : v < 4294967296) (w : World) (x : UB w b f g h k s) : Calls Try.prog 33 #[.pointer (some ⟨b, 0, none⟩), .int .u32 v] w fun e w' => e = .returned (.tuple #[]) ∧ UW w w' b f g h k (s.se v) := by
  have c1 := x.B.cell 1 rfl
  have q1 := x.B.frozen 1
  have X := Lib.hid x
  have hne := x.ne
  have a1 := and_1u h0 h1
  clear x
  go_enter Try.func33, Try.ntmps33
  go_wp2
  go_end0
  have hU : Upd (fun i => i = b) w (w.setCell ⟨b, 1, none⟩ (.int .u32 (v % 2))) := by ((with_reducible repeat' first | exact Upd.refl _ _ | apply Upd.drew | apply Upd.drewN | apply Upd.alloc | refine Upd.setCell ?_ ?_) <;> first | (intro _ _ h; exact h) | (intro _ _ h; exact h.elim) | (intro i h1 h2; exfalso; (try simp only at h2); omega) | (left; rfl) | (right; dsimp only; omega) | (right; omega))
  exact ⟨rfl, ⟨g, k, .inl rfl, .inl rfl, Blk.set X.out.B, X.out.F.upd hU (fun e => by omega) (fun e => by omega), X.out.G.upd hU (fun e => by omega) (fun e => by omega), hne, by show 0 ≤ v % 2; omega, by show v % 2 ≤ 1; omega, X.out.ok.ph, X.out.ok.bc⟩, hU.mono fun _ _ h => .inl h⟩
theorem line_u (w : World) (x : UB w b f g h k s) : Calls Try.prog 14 #[.pointer (some ⟨b, 0, none⟩)] w fun e w' => e = .returned (.bool (decide (s.ctrl = 1) && decide (0 < s.cs.length))) ∧ w = w' := by
  have c3 := x.B.cell 3 rfl
  have c1 := x.B.cell 1 rfl
  have H := Lib.hid x
  clear x
  by_cases hc : s.ctrl = 1
  · have E := Lib.hid (show (decide (s.ctrl = 1) && decide (0 < s.cs.length)) = decide (0 < s.cs.length) by simp [hc])
    rw [hc] at c1
    clear hc
    go_enter Try.func14, Try.ntmps14
    go_wp2_with fail
    refine (there_u _ H.out).mono ?_
    rintro e w1 ⟨rfl, rfl⟩
    go_wp2_with fail
    refine (len_any _ H.out.F).mono ?_
    rintro e w1 ⟨rfl, rfl⟩
    go_wp2_with fail
    go_ret
    rw [E.out]
    exact ⟨rfl, rfl⟩
  · have E := Lib.hid (show (decide (s.ctrl = 1) && decide (0 < s.cs.length)) = false by simp [hc])
    have hc' : (s.ctrl == 1) = false := by simpa using hc
    go_enter Try.func14, Try.ntmps14
    go_wp2_with fail
    refine (there_u _ H.out).mono ?_
    rintro e w1 ⟨rfl, rfl⟩
    go_wp2_with fail
    go_ret
    rw [E.out]
    exact ⟨rfl, rfl⟩
end
end Go.Proofs.Ytlpfjjhjfmcfmaa
