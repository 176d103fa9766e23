/- IrqOrder: the law's walk. Conditions: the lines' cells are known. -/
import Derived.Test.YtkhhmkcpbefadaaIrqOrderPlain
namespace Go.Proofs.Ytkhhmkcpbefadaa
open Go.RowKit
theorem aw_lookW {w W : World} {b r : Nat} {p : List WR × WS} (h : AW w W b r p) {n : Nat} (hn : p.1.length = n) (hn2 : n ≤ 100000) (A : Option Addr) (cc : Nat) (LV : Nat → Bool)
    (hl : 0 < n → ∃ g o, A = some ⟨g, o, none⟩ ∧ g ≠ b ∧ g ≠ r ∧ ∀ i, i < n → W.cell? ⟨g, o + i, none⟩ = some (.bool (LV i))) :
    Calls Try.prog 12 #[.pointer (some ⟨b, 0, none⟩), .slice A n cc] W fun e w' => e = .returned (.int .i64 0) ∧ AW w w' b r (lookR LV p n) := by
  subst hn
  exact (look_b A cc LV hn2 W h.fit h.bi hl).mono fun _ _ ⟨e, hb, hu⟩ => ⟨e, h.to hb (lookR_fit LV h.fit _) hu⟩
theorem rems_at {B k : Nat} {bit : Bool} (h : B.testBit k = bit) : (((B : Int) / 2 ^ k).tmod 2 == 0) = !bit := by
  rw [← h, Nat.testBit_eq_decide_div_mod_eq]
  have e : ((B : Int) / 2 ^ k).tmod 2 = ((B / 2 ^ k % 2 : Nat) : Int) := by
    rw [show (B : Int) / 2 ^ k = ((B / 2 ^ k : Nat) : Int) by simp]
    rfl
  rw [e]
  have h2 : B / 2 ^ k % 2 = 0 ∨ B / 2 ^ k % 2 = 1 := by omega
  rcases h2 with h2 | h2 <;> rw [h2] <;> decide
/-- What holds between two rounds of the first loop. -/
structure OL (w W : World) (V : Nat → Int) (t : Nat) (v5 v6 : Value) : Prop where
  dev : W.ownsRow w.heap.size 31 5 v5 t (denc V t)
  tru : W.ownsRow w.heap.size 4 1 v6 t (List.replicate t (.bool true))
  far : Far v5 v6
  up : Upd Non w W
  okl : ∀ i, i < t → 0 ≤ V i ∧ V i ≤ 7
theorem rep_snoc (t : Nat) : List.replicate t (Value.bool true) ++ [.bool true] = List.replicate (t + 1) (.bool true) := by rw [List.replicate_succ']
/-- Behind the first append, and behind the second. -/
structure OM (w W : World) (V : Nat → Int) (t : Nat) (x : Int) (v5 v6 : Value) : Prop where
  dev : W.ownsRow w.heap.size 31 5 v5 (t + 1) (denc V t ++ [.int .i64 0, .int .u32 0, .int .i64 0, .int .i64 0, .int .i64 x])
  tru : W.ownsRow w.heap.size 4 1 v6 t (List.replicate t (.bool true))
  far : Far v5 v6
  up : Upd Non w W
theorem OM.mk' {w W1 W2 W3 : World} {V : Nat → Int} {t : Nat} {x : Int} {v5 v5' v6 : Value} (h : OL w W1 V t v5 v6) (u : Upd Non W1 W2)
    (h1 : W3.ownsRow w.heap.size 31 5 v5' (t + 1) (denc V t ++ [.int .i64 0, .int .u32 0, .int .i64 0, .int .i64 0, .int .i64 x])) (h2 : W2.grownBy W3 v5.ownBlock) (h3 : v5'.ownBlock = v5.ownBlock ∨ v5'.ownBlock = some W2.heap.size) : OM w W3 V t x v5' v6 :=
  ⟨h1, own_grown h2 (own_upd u h.tru fun _ _ => id) (fun k hk e => h.far k e hk), h.far.grow h3 (own_upd u h.tru fun _ _ => id), Upd.grown h2 (Upd.call u h.up fun _ _ h => h) fun r hr => .inr (own_block h.dev r hr).1⟩
theorem OL.mk' {w W2 W3 W4 : World} {V : Nat → Int} {t : Nat} {x : Int} {v5 v6 v6' : Value} (h : OM w W2 V t x v5 v6) (u : Upd Non W2 W3) (hx : x = V t) (h0 : ∀ i, i < t → 0 ≤ V i ∧ V i ≤ 7) (hx2 : 0 ≤ x ∧ x ≤ 7)
    (h1 : W4.ownsRow w.heap.size 4 1 v6' (t + 1) (List.replicate t (.bool true) ++ [.bool true])) (h2 : W3.grownBy W4 v6.ownBlock) (h3 : v6'.ownBlock = v6.ownBlock ∨ v6'.ownBlock = some W3.heap.size) : OL w W4 V (t + 1) v5 v6' := by
  subst hx
  refine ⟨own_grown h2 (own_upd u h.dev fun _ _ => id) (fun k hk e => h.far k hk e), by rw [← rep_snoc]; exact h1, (Far.grow h.far.symm h3 (own_upd u h.dev fun _ _ => id)).symm, Upd.grown h2 (Upd.call u h.up fun _ _ h => h) fun r hr => .inr (own_block h.tru r hr).1, fun i hi => ?_⟩
  by_cases e : i < t
  · exact h0 i e
  · rw [show i = t by omega]; exact hx2
set_option maxRecDepth 100000 in
set_option maxHeartbeats 16000000 in
theorem order_law (A : Option Addr) (n cc : Nat) (hmax : n ≤ 9223372036854775807) (V : Nat → Int) (m : Nat) (hm : m < 256) (w : World) (hd : 0 < n → ∃ b o, A = some ⟨b, o, none⟩ ∧ ∀ j, j < n → w.cell? ⟨b, o + j, none⟩ = some (.int .i64 (V j))) :
    Calls Try.prog 4 #[.slice A n cc, .int .u8 m] w fun e w' => e = .returned (.bool true) ∧ Upd Non w w' := by
  have HD := Lib.hid hd
  clear hd
  by_cases q : (16 : Int) < n
  · go_enter Try.func4, Try.ntmps4
    go_wp2_with (first | (go_at_call 8; refine (awake_ok w).mono ?_; rintro e w1 ⟨rfl, hU1⟩))
    go_ret
    exact ⟨rfl, hU1⟩
  go_enter Try.func4, Try.ntmps4
  go_wp2_with (first | (go_at_call 8; refine (awake_ok w).mono ?_; rintro e w1 ⟨rfl, hU1⟩))
  have HU1 := Lib.hid hU1
  clear hU1
  go_loopw [5, 6, 7, 8] (fun v5 v6 v7 i wr => ∃ t : Nat, t ≤ n ∧ i = .int .i64 t ∧ v7 = .int .u8 (orB V t) ∧ OL w wr V t v5 v6) (fun _ _ _ i _ => n - (intOf i).toNat)
  case atStart => exact ⟨0, Nat.zero_le _, rfl, rfl, World.ownsRow_nil _ _ _ _, World.ownsRow_nil _ _ _ _, (fun k h => by cases h), HU1.out, fun i h => absurd h (by omega)⟩
  case round =>
    clear HU1
    obtain ⟨t, ht, rfl, rfl, hO⟩ := hrel
    have HO := Lib.hid hO
    clear hO
    by_cases hlt : t < n
    case neg =>
      have k1 : ¬ (t : Int) < n := by omega
      obtain rfl : t = n := by omega
      obtain ⟨A5, c5, rfl, h5⟩ := own_cells HO.out.dev
      obtain ⟨A6, c6, rfl, h6⟩ := own_cells HO.out.tru
      have HN := Lib.hid (new_is A5 t c5 (fun _ => 0) V (by omega) wr (fun hp => by
        obtain ⟨g, e, _, _, _, hc⟩ := h5 hp
        refine ⟨g, 0, e, fun i hi => ⟨0, 0, 0, ?_, ?_, ?_, ?_, ?_⟩⟩
        all_goals rw [Nat.zero_add]
        · exact hc (i * 5 + 0) _ ((denc_at V t i hi 0 (by decide)).trans rfl)
        · exact hc (i * 5 + 1) _ ((denc_at V t i hi 1 (by decide)).trans rfl)
        · exact hc (i * 5 + 2) _ ((denc_at V t i hi 2 (by decide)).trans rfl)
        · exact hc (i * 5 + 3) _ ((denc_at V t i hi 3 (by decide)).trans rfl)
        · exact hc (i * 5 + 4) _ ((denc_at V t i hi 4 (by decide)).trans rfl)))
      have H6 := Lib.hid h6
      clear h5 h6
      have hG : ∀ i, i < t → goodD 0 (V i) := fun i hi => by have := HO.out.okl i hi; unfold goodD; omega
      have HG := Lib.hid hG
      clear hG
      go_wp2_with fail
      refine HN.out.mono ?_
      rintro e w2 ⟨hN, hU⟩
      rcases hN with ⟨_, _, rfl, hB⟩ | ⟨hN, _⟩
      case inr => exact absurd ⟨HG.out, by omega⟩ hN
      obtain ⟨r, hB, hr⟩ := hB
      have HW := Lib.hid (show AW w w2 wr.heap.size r (wiresOf (fun _ => 0) V t, WS.fresh) from ⟨hB, Upd.call hU HO.out.up fun _ _ h => h, HO.out.up.size, Nat.le_trans HO.out.up.size hr, wiresOf_fit _ _ _ HG.out⟩)
      have HL := Lib.hid (aw_lookW HW.out (wiresOf_length _ _ t) (by omega) A6 c6 (fun _ => true) (fun hp => by
        obtain ⟨g, e, _, hg, _, hc⟩ := H6.out hp
        exact ⟨g, 0, e, by omega, by omega, fun i hi => by
          rw [Nat.zero_add]
          exact hU.cell_eq id (hc i _ (by rw [List.getElem?_replicate]; exact if_pos hi))⟩))
      obtain ⟨b, hb⟩ : ∃ x, x = wr.heap.size := ⟨_, rfl⟩
      rw [← hb] at HL ⊢
      clear HN H6 hU hB hr HW hb
      go_wp2_with fail
      refine HL.out.mono ?_
      rintro e w3 ⟨rfl, hA⟩
      have HA := Lib.hid hA
      have hLA := look_all HO.out.okl t (Nat.le_refl _)
      have HLA := Lib.hid hLA.2
      have HB := Lib.hid (orB_lt t HO.out.okl)
      clear hA HL hLA
      obtain ⟨p, hp⟩ : ∃ p, p = lookR (fun _ => true) (wiresOf (fun _ => 0) V t, WS.fresh) t := ⟨_, rfl⟩
      rw [← hp] at HA HLA
      clear hp
      go_wp2_with fail
      refine (aw_mask (k := 0) (m := m) HA.out (by decide) hm).mono ?_
      rintro e w4 ⟨rfl, hA⟩
      have HA2 := Lib.hid hA
      clear hA
      go_wp2_with fail
      refine (aw_pend (k := 0) (m := orB V t) HA2.out (by decide) HLA.out.1).mono ?_
      rintro e w5 ⟨rfl, rfl⟩
      obtain ⟨B, hB⟩ : ∃ B, B = orB V t := ⟨_, rfl⟩
      have HP0 := Lib.hid (show (p.2.setL 0 m).le 0 = m ∧ (p.2.setL 0 m).wt 0 = left B m 0 from ⟨rfl, by rw [hB]; exact HLA.out.1⟩)
      have HB2 := Lib.hid (show B < 256 by rw [hB]; exact HB.out)
      rw [← hB]
      clear HB HLA HA hB HG
      go_wp2_with fail
      go_loopw [11] (fun i wr2 => ∃ (k : Nat) (p : List WR × WS), k ≤ 8 ∧ i = .int .i64 k ∧ AW w wr2 b r p ∧ p.2.le 0 = m ∧ p.2.wt 0 = left B m k) (fun i _ => 8 - (intOf i).toNat)
      case atStart => exact ⟨0, _, by omega, rfl, HA2.out, HP0.out.1, HP0.out.2⟩
      case round =>
        clear HA2 HP0 HO
        obtain ⟨k, q, hk, rfl, hA, hq1, hq2⟩ := hrel
        have HA := Lib.hid hA
        have HQ := Lib.hid (And.intro hq1 hq2)
        clear hA hq1 hq2
        by_cases k8 : k < 8
        case neg =>
          have k1 : ¬ (k : Int) < 8 := by omega
          obtain rfl : k = 8 := by omega
          have hz : q.2.wt 0 &&& q.2.le 0 = 0 := by rw [HQ.out.1, HQ.out.2]; exact left_end HB2.out
          have HC := Lib.hid (show callR q.2 0 = (0, false) by unfold callR; rw [if_pos hz])
          have HS := Lib.hid (show callS q.2 0 = q.2 by unfold callS; rw [if_pos hz])
          have z1 := bits_andnot_byte HB2.out hm
          clear hz
          go_wp2_with (first
            | (go_at_call 14; refine (aw_call (k := 0) HA.out (by decide) HC.out).mono ?_; rintro e w7 ⟨rfl, hA7⟩; have HA7 := Lib.hid hA7; clear hA7)
            | (go_at_call 13; refine (aw_pend (k := 0) (m := left B m 8) HA7.out (by decide) (by show (callS q.2 0).wt 0 = _; rw [HS.out]; exact HQ.out.2)).mono ?_; rintro e w8 ⟨rfl, rfl⟩))
          go_ret
          exact ⟨rfl, HA7.out.up⟩
        have k1 : (k : Int) < 8 := by omega
        have hk8 : (k : Int) ≤ 8 := by omega
        have hk0 : (0 : Int) ≤ k := by omega
        have z1 := bits_and_byte B m HB2.out hm
        obtain ⟨bit, hbit⟩ : ∃ bit, (B &&& m).testBit k = bit := ⟨_, rfl⟩
        have z2 := rems_at hbit
        have HBit := Lib.hid hbit
        clear hbit
        cases bit
        · simp only [Bool.not_false] at z2
          go_wp2_with fail
          exact ⟨⟨k + 1, q, by omega, rfl, HA.out, HQ.out.1, by rw [left, HBit.out]; exact HQ.out.2⟩, by simp only [intOf]; omega⟩
        · simp only [Bool.not_true] at z2
          have hl := left_low HB2.out k8 HBit.out
          have HC := Lib.hid (show callR q.2 0 = ((k : Int), true) by unfold callR; rw [HQ.out.1, HQ.out.2, if_neg hl.1, hl.2])
          have HS := Lib.hid (show callS q.2 0 = q.2.setW 0 (clr (left B m k) k) by unfold callS; rw [HQ.out.1, HQ.out.2, if_neg hl.1, hl.2])
          clear hl
          go_wp2_with (go_at_call 14; refine (aw_call (k := 0) HA.out (by decide) HC.out).mono ?_; rintro e w7 ⟨rfl, hA7⟩; have HA7 := Lib.hid hA7; clear hA7)
          exact ⟨⟨k + 1, _, by omega, rfl, HA7.out, by show (callS q.2 0).le 0 = m; rw [HS.out]; exact HQ.out.1, by show (callS q.2 0).wt 0 = _; rw [HS.out, left, HBit.out]; rfl⟩, by simp only [intOf]; omega⟩
    have k1 : (t : Int) < n := by omega
    obtain ⟨g, o, rfl, hg⟩ := HD.out (by omega)
    have l9 := hg t hlt
    obtain ⟨x, hx⟩ : ∃ x, x = V t := ⟨_, rfl⟩
    rw [← hx] at l9
    have L0 := Lib.hid l9
    have l0 := HO.out.up.cell_eq id l9
    clear l9
    have HX := Lib.hid hx
    clear hg hx
    by_cases q1 : x < 0
    · go_wp2_with fail
      go_ret
      exact ⟨rfl, HO.out.up⟩
    by_cases q2 : 7 < x
    · go_wp2_with fail
      go_ret
      exact ⟨rfl, HO.out.up⟩
    have hgl : g < wr.heap.size := World.block_lt_of_cell? wr ⟨g, o + t, none⟩ l0
    have hB := orB_lt t HO.out.okl
    have hL8 : x ≤ 8 := by omega
    have hL0 : 0 ≤ x := by omega
    have z4 : IntKind.u8.wrap ((2 : Int) ^ x.toNat) = ((2 ^ x.toNat : Nat) : Int) := shl_byte _ (by omega)
    have z5 := bits_or_byte (orB V t) (2 ^ x.toNat) hB (by have : 2 ^ x.toNat < 2 ^ 8 := Nat.pow_lt_pow_right (by decide) (by omega); omega)
    have z7 : bits .or .u8 ((orB V t : Nat) : Int) ((2 : Int) ^ x.toNat) = ((orB V t ||| 2 ^ x.toNat : Nat) : Int) := by rw [← z5]; simp
    go_wp2_with (first
      | (go_at_call 10; refine (one_is 0 x _).mono ?_; rintro e w2 ⟨rfl, hu2⟩; have HU2 := Lib.hid hu2; clear hu2)
      | (refine wpList_gappend rfl _ _ 33 rfl 31 (.agg #[.int .i64 0, .int .u32 0, .int .i64 0, .int .i64 0, .int .i64 0]) 5 40 Try.underlying33 (by kernel_rfl) rfl (by decide) rfl (own_upd (S := Non) (Upd.alloc HU2.out) HO.out.dev fun _ _ => id) w2.heap.size #[.int .i64 0, .int .u32 0, .int .i64 0, .int .i64 0, .int .i64 x] 31 rfl (Blk.new _ _ _) rfl rfl (by omega) (by omega) (Nat.le_trans HO.out.up.size (Upd.size (Upd.alloc HU2.out))) ?_; intro v5' w3 r1 r2 r3; have HM := Lib.hid (OM.mk' HO.out (Upd.alloc HU2.out) r1 r2 r3); clear r1 r2 r3 HU2)
      | (refine wpList_gappend rfl _ _ 22 rfl 4 (.bool false) 1 1 Try.underlying22 (by kernel_rfl) rfl (by decide) rfl (own_upd (S := Non) (Upd.alloc (Upd.refl _ _)) HM.out.tru fun _ _ => id) w3.heap.size #[.bool true] 4 rfl (Blk.new _ _ _) rfl rfl (by omega) (by omega) (Nat.le_trans HM.out.up.size (Upd.size (S := Non) (Upd.alloc (Upd.refl _ _)))) ?_; intro v6' w4 r1 r2 r3; have HN := Lib.hid (OL.mk' HM.out (Upd.alloc (Upd.refl _ _)) HX.out HO.out.okl ⟨by omega, by omega⟩ r1 r2 r3); clear r1 r2 r3; have l1 := HN.out.up.cell_eq id L0.out))
    exact ⟨⟨t + 1, by omega, rfl, by rw [orB, ← HX.out], HN.out⟩, by simp only [intOf]; omega⟩
end Go.Proofs.Ytkhhmkcpbefadaa
