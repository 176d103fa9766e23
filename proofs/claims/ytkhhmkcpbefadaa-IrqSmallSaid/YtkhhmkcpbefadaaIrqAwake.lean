/- One device; the example. No condition. -/
import Derived.Test.YtkhhmkcpbefadaaIrqNew
import Derived.Test.YtkhhmkcpbefadaaIrqLook
namespace Go.Proofs.Ytkhhmkcpbefadaa
open Go.RowKit
theorem one_is (o l : Int) (w : World) : Calls Try.prog 10 #[.int .i64 o, .int .i64 l] w fun e w' => e = .returned (.agg #[.int .i64 0, .int .u32 0, .int .i64 0, .int .i64 o, .int .i64 l]) ∧ Upd Non w w' := by
  go_enter Try.func10, Try.ntmps10
  go_wp2_with fail
  refine bodyPost_ret (results_cell_row Try.results10 _ _ w.heap.size 31 #[.int .i64 0, .int .u32 0, .int .i64 0, .int .i64 o, .int .i64 l] (0, 0) _ rfl (heap_alloc_new _ _) Try.underlying31 rfl (by kernel_rfl)) rfl ?_
  exact ⟨rfl, by ((with_reducible repeat' first | exact Upd.refl _ _ | apply Upd.drew | apply Upd.drewN | apply Upd.alloc | refine Upd.setCell ?_ ?_) <;> first | (intro _ _ h; exact h) | (intro _ _ h; exact h.elim) | (intro i h1 h2; exfalso; (try simp only at h2); omega) | (left; rfl) | (right; dsimp only; omega) | (right; omega))⟩
theorem new_one (g cc : Nat) (c0 c2 : Int) (c1 O N : Int) (w : World) (hb : Blk w g #[.int .i64 c0, .int .u32 c1, .int .i64 c2, .int .i64 O, .int .i64 N] 31) (hg : goodD O N) :
    Calls Try.prog 9 #[.slice (some ⟨g, 0, none⟩) 1 cc] w fun e w' => e = .returned (.tuple #[.pointer (some ⟨w.heap.size, 0, none⟩), .int .i64 0]) ∧ (∃ r, BI w' w.heap.size r [⟨O, N, false⟩] WS.fresh ∧ w.heap.size ≤ r) ∧ Upd Non w w' := by
  refine (new_is (some ⟨g, 0, none⟩) 1 cc (fun _ => O) (fun _ => N) (by decide) w (fun _ => ⟨g, 0, rfl, fun i hi => ?_⟩)).mono ?_
  · obtain rfl : i = 0 := by omega
    exact ⟨c0, c1, c2, hb.cell 0 rfl, hb.cell 1 rfl, hb.cell 2 rfl, hb.cell 3 rfl, hb.cell 4 rfl⟩
  · rintro e w1 ⟨h | h, hu⟩
    · exact ⟨h.2.2.1, h.2.2.2, hu⟩
    · exact absurd ⟨fun _ _ => hg, by decide⟩ h.1
theorem look_one {p : List WR × WS} {b r : Nat} (g cc : Nat) (h : Bool) (w : World) (hp : p.1.length = 1) (hf : Fit p.1 p.2) (hb : BI w b r p.1 p.2) (hg : Blk w g #[.bool h] 4) (h1 : g ≠ b) (h2 : g ≠ r) :
    Calls Try.prog 12 #[.pointer (some ⟨b, 0, none⟩), .slice (some ⟨g, 0, none⟩) 1 cc] w fun e w' => e = .returned (.int .i64 0) ∧ BI w' b r (lstep p 0 h).1 (lstep p 0 h).2 ∧ Upd (fun i => i = b ∨ i = r) w w' := by
  have := look_b (some ⟨g, 0, none⟩) cc (fun _ => h) (by omega) w hf hb (fun _ => ⟨g, 0, rfl, h1, h2, fun i hi => by rw [show i = 0 by omega]; exact hg.cell 0 rfl⟩)
  rw [hp] at this
  exact this
/-- The board's states in the example. -/
def aw0 : List WR × WS := ([⟨1, 3, false⟩], WS.fresh)
def aw1 : List WR × WS := lstep aw0 0 true
def aw2 : List WR × WS := (aw1.1, aw1.2.setL 1 8)
def aw3 : List WR × WS := (aw2.1, callS aw2.2 1)
def aw4 : List WR × WS := lstep aw3 0 true
def aw5 : List WR × WS := lstep aw4 0 false
def aw6 : List WR × WS := lstep aw5 0 true
theorem lstep_fit' {p : List WR × WS} {h : Bool} (hf : Fit p.1 p.2) : Fit (lstep p 0 h).1 (lstep p 0 h).2 := lstep_fit 0 h hf
theorem aw0_fit : Fit aw0.1 aw0.2 := wiresOf_fit (fun _ => 1) (fun _ => 3) 1 (fun _ _ => by decide)
theorem aw1_fit : Fit aw1.1 aw1.2 := lstep_fit' aw0_fit
theorem aw2_fit : Fit aw2.1 aw2.2 := aw1_fit.setL (by decide)
theorem aw3_fit : Fit aw3.1 aw3.2 := aw2_fit.called (k := 1)
theorem aw4_fit : Fit aw4.1 aw4.2 := lstep_fit' aw3_fit
theorem aw5_fit : Fit aw5.1 aw5.2 := lstep_fit' aw4_fit
theorem aw6_fit : Fit aw6.1 aw6.2 := lstep_fit' aw5_fit
/-- A board of the call's own between two steps. -/
structure AW (w W : World) (b r : Nat) (p : List WR × WS) : Prop where
  bi : BI W b r p.1 p.2
  up : Upd Non w W
  lb : w.heap.size ≤ b
  lr : w.heap.size ≤ r
  fit : Fit p.1 p.2
theorem AW.non {w W W' : World} {b r : Nat} {p : List WR × WS} (h : AW w W b r p) (u : Upd Non W W') : AW w W' b r p := ⟨h.bi.non u, Upd.call u h.up fun _ _ h => h, h.lb, h.lr, h.fit⟩
section
variable {w W : World} {b r : Nat} {p : List WR × WS}
theorem AW.to {W' : World} {q : List WR × WS} (h : AW w W b r p) (hb : BI W' b r q.1 q.2) (hf : Fit q.1 q.2) (u : Upd (fun i => i = b ∨ i = r) W W') : AW w W' b r q :=
  ⟨hb, Upd.call u h.up (fun i hi h2 => by have := h.lb; have := h.lr; rcases h2 with rfl | rfl <;> omega), h.lb, h.lr, hf⟩
theorem aw_look (h : AW w W b r p) (hp : p.1.length = 1) (hh : Bool) (g : Nat) (hg : Blk W g #[.bool hh] 4) (h1 : g ≠ b) (h2 : g ≠ r) (cc : Nat) : Calls Try.prog 12 #[.pointer (some ⟨b, 0, none⟩), .slice (some ⟨g, 0, none⟩) 1 cc] W fun e w' => e = .returned (.int .i64 0) ∧ AW w w' b r (lstep p 0 hh) :=
  (look_one g cc hh W hp h.fit h.bi hg h1 h2).mono fun _ _ ⟨e, hb, hu⟩ => ⟨e, h.to hb (lstep_fit' h.fit) hu⟩
theorem aw_mask (h : AW w W b r p) {k m : Nat} (hk : k < 8) (hm : m < 256) : Calls Try.prog 11 #[.pointer (some ⟨b, 0, none⟩), .int .i64 k, .int .u8 m] W fun e w' => e = .returned (.int .i64 0) ∧ AW w w' b r (p.1, p.2.setL k m) :=
  (mask_b hk W h.bi).mono fun _ _ ⟨e, hb, hu⟩ => ⟨e, h.to (q := (p.1, p.2.setL k m)) hb (h.fit.setL hm) (hu.mono fun _ _ h => .inl h)⟩
theorem aw_pend (h : AW w W b r p) {k m : Nat} (hk : k < 8) (hm : p.2.wt k = m) : Calls Try.prog 13 #[.pointer (some ⟨b, 0, none⟩), .int .i64 k] W fun e w' => e = .returned (.int .u8 m) ∧ W = w' := by
  rw [← hm]; exact pend_b hk W h.bi
theorem aw_call (h : AW w W b r p) {k : Nat} {x : Int} {is : Bool} (hk : k < 8) (hx : callR p.2 k = (x, is)) : Calls Try.prog 14 #[.pointer (some ⟨b, 0, none⟩), .int .i64 k] W fun e w' => e = .returned (.tuple #[.int .i64 x, .bool is]) ∧ AW w w' b r (p.1, callS p.2 k) :=
  (call_b hk h.fit W h.bi).mono fun _ _ ⟨e, hb, hu⟩ => ⟨by rw [e, hx], h.to (q := (p.1, callS p.2 k)) hb h.fit.called (hu.mono fun _ _ h => .inl h)⟩
theorem aw_new (g cc : Nat) (c0 c2 : Int) (c1 O N : Int) (hu : Upd Non w W) (hb : Blk W g #[.int .i64 c0, .int .u32 c1, .int .i64 c2, .int .i64 O, .int .i64 N] 31) (hg : goodD O N) :
    Calls Try.prog 9 #[.slice (some ⟨g, 0, none⟩) 1 cc] W fun e w' => e = .returned (.tuple #[.pointer (some ⟨W.heap.size, 0, none⟩), .int .i64 0]) ∧ ∃ r, AW w w' W.heap.size r ([⟨O, N, false⟩], WS.fresh) := by
  refine (new_one g cc c0 c2 c1 O N W hb hg).mono ?_
  rintro e w1 ⟨he, ⟨r, h1, h2⟩, h3⟩
  exact ⟨he, r, ⟨h1, Upd.call h3 hu fun _ _ h => h, hu.size, Nat.le_trans hu.size h2, wiresOf_fit (fun _ => O) (fun _ => N) 1 (fun _ _ => hg)⟩⟩
theorem AW.ltb (h : AW w W b r p) : b < W.heap.size := h.bi.ltb
theorem AW.ltr (h : AW w W b r p) : r < W.heap.size := h.bi.lt
theorem aw_lookN (h : AW w W b r p) (hp : p.1.length = 1) (hh : Bool) : Calls Try.prog 12 #[.pointer (some ⟨b, 0, none⟩), .slice (some ⟨W.heap.size, 0, none⟩) 1 1] (W.alloc (.cells #[.bool hh] 4)) fun e w' => e = .returned (.int .i64 0) ∧ AW w w' b r (lstep p 0 hh) :=
  aw_look (h.non (Upd.refl _ _).alloc) hp hh _ (Blk.new _ _ _) (by have := h.ltb; omega) (by have := h.ltr; omega) 1
end
set_option maxRecDepth 100000 in
set_option maxHeartbeats 8000000 in
theorem awake_ok (w : World) : Calls Try.prog 8 #[] w fun e w' => e = .returned (.bool true) ∧ Upd Non w w' := by
  go_enter Try.func8, Try.ntmps8
  go_wp2_with fail
  refine (one_is 1 3 _).mono ?_
  rintro e w1 ⟨rfl, hu1⟩
  have HU := Lib.hid hu1
  clear hu1
  go_wp2_with fail
  refine (aw_new _ _ 0 0 0 1 3 HU.out.alloc (Blk.new _ _ _) (by decide)).mono ?_
  rintro e w2 ⟨rfl, r, hA⟩
  obtain ⟨b, hb⟩ : ∃ x, x = (w1.alloc (.cells #[.int .i64 0, .int .u32 0, .int .i64 0, .int .i64 1, .int .i64 3] 31)).heap.size := ⟨_, rfl⟩
  rw [← hb] at hA ⊢
  have HA0 := Lib.hid (show AW w w2 b r aw0 from hA)
  clear hA hb
  go_wp2_with fail
  refine (aw_lookN HA0.out rfl true).mono ?_
  rintro e w3 ⟨rfl, hA⟩
  have HA1 := Lib.hid (show AW w w3 b r aw1 from hA)
  clear hA HA0
  go_wp2_with fail
  refine (aw_pend (k := 1) (m := 8) HA1.out (by decide) (by decide)).mono ?_
  rintro e w4 ⟨rfl, rfl⟩
  go_wp2_with fail
  refine (aw_call (k := 1) (x := 0) (is := false) HA1.out (by decide) (by decide)).mono ?_
  rintro e w4 ⟨rfl, hA⟩
  have HA2 := Lib.hid (show AW w w4 b r aw1 from hA)
  clear hA HA1
  go_wp2_with fail
  refine (aw_mask (k := 1) (m := 8) HA2.out (by decide) (by decide)).mono ?_
  rintro e w5 ⟨rfl, hA⟩
  have HA3 := Lib.hid (show AW w w5 b r aw2 from hA)
  clear hA HA2
  go_wp2_with fail
  refine (aw_call (k := 1) (x := 3) (is := true) HA3.out (by decide) (by decide)).mono ?_
  rintro e w6 ⟨rfl, hA⟩
  have HA4 := Lib.hid (show AW w w6 b r aw3 from hA)
  clear hA HA3
  go_wp2_with fail
  refine (aw_lookN HA4.out rfl true).mono ?_
  rintro e w7 ⟨rfl, hA⟩
  have HA5 := Lib.hid (show AW w w7 b r aw4 from hA)
  clear hA HA4
  go_wp2_with fail
  refine (aw_call (k := 1) (x := 0) (is := false) HA5.out (by decide) (by decide)).mono ?_
  rintro e w8 ⟨rfl, hA⟩
  have HA6 := Lib.hid (show AW w w8 b r aw4 from hA)
  clear hA HA5
  go_wp2_with fail
  refine (aw_lookN HA6.out rfl false).mono ?_
  rintro e w9 ⟨rfl, hA⟩
  have HA7 := Lib.hid (show AW w w9 b r aw5 from hA)
  clear hA HA6
  go_wp2_with fail
  refine (aw_lookN HA7.out rfl true).mono ?_
  rintro e w10 ⟨rfl, hA⟩
  have HA8 := Lib.hid (show AW w w10 b r aw6 from hA)
  clear hA HA7
  go_wp2_with fail
  refine (aw_call (k := 1) (x := 3) (is := true) HA8.out (by decide) (by decide)).mono ?_
  rintro e w11 ⟨rfl, hA⟩
  have HA9 := Lib.hid hA.up
  clear hA HA8
  go_wp2_with fail
  go_ret
  exact ⟨rfl, HA9.out⟩
end Go.Proofs.Ytkhhmkcpbefadaa
