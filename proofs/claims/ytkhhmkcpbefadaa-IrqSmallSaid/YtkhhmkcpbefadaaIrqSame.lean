/- Is a board the document's? Conditions: both are known, and agree. -/
import Derived.Test.YtkhhmkcpbefadaaIrqCopy
import Derived.Test.YtkhhmkcpbefadaaIrqRefNew
import Derived.Test.YtkhhmkcpbefadaaTail
namespace Go.Proofs.Ytkhhmkcpbefadaa
open Go.RowKit
def rowOf (f : Nat → Bool) (o : Nat) : List Value := [.bool (f o), .bool (f (o + 1)), .bool (f (o + 2)), .bool (f (o + 3)), .bool (f (o + 4)), .bool (f (o + 5)), .bool (f (o + 6)), .bool (f (o + 7))]
theorem rowOf_at {w : World} {b : Nat} {v : Value} {f : Nat → Bool} (h : Blk w b (renc v f) 85) {o : Nat} (ho : o + 7 < 128) : w.rangeAt b (1 + o) (rowOf f o) := by
  intro j u hj
  have hj8 : j < 8 := by have := (List.getElem?_eq_some_iff.1 hj).1; exact this
  rw [Nat.add_assoc]
  refine h.cell _ ((renc_at v f (i := o + j) (by omega)).trans ?_)
  rcases lt8 hj8 with rfl | rfl | rfl | rfl | rfl | rfl | rfl | rfl
  all_goals (cases hj; rfl)
theorem bits_wt {s : WS} {f : Nat → Bool} {ws : List WR} (hs : Bt s f) (hf : Fit ws s) {k : Nat} (hk : k < 8) (w : World) : Calls Try.prog 49 #[.agg (rowOf f (k * 8)).toArray] w fun e w' => e = .returned (.int .u8 (s.wt k)) ∧ Upd Non w w' :=
  bits_is (s.wt k) (hf.wt k) (fun j => f (k * 8 + j)) (fun t ht => hs.wt k t hk ht) w
theorem bits_le {s : WS} {f : Nat → Bool} {ws : List WR} (hs : Bt s f) (hf : Fit ws s) {k : Nat} (hk : k < 8) (w : World) : Calls Try.prog 49 #[.agg (rowOf f (64 + k * 8)).toArray] w fun e w' => e = .returned (.int .u8 (s.le k)) ∧ Upd Non w w' :=
  bits_is (s.le k) (hf.le k) (fun j => f (64 + k * 8 + j)) (fun t ht => hs.le k t hk ht) w
set_option maxRecDepth 100000 in
set_option maxHeartbeats 16000000 in
theorem same_is {ws : List WR} {s : WS} {f : Nat → Bool} {b r c q : Nat} (hn : ws.length ≤ 1000) (w : World) (hB : BI w b r ws s) (hR : RI w c q ws f) (hs : Bt s f) (hf : Fit ws s) :
    Calls Try.prog 27 #[.pointer (some ⟨b, 0, none⟩), .pointer (some ⟨c, 0, none⟩)] w fun e w' => e = .returned (.bool true) ∧ Upd Non w w' := by
  have HB := Lib.hid hB
  have HR := Lib.hid hR
  have HS := Lib.hid hs
  have HF := Lib.hid hf
  clear hB hR hs hf
  go_enter Try.func27, Try.ntmps27
  go_wp2_with fail
  go_loopw [5] (fun i wr => ∃ k : Nat, k ≤ 8 ∧ i = .int .i64 k ∧ Upd Non w wr) (fun i _ => 8 - (intOf i).toNat)
  case atStart => exact ⟨0, by omega, rfl, Upd.refl _ _⟩
  case round =>
    obtain ⟨k, hk, rfl, hU⟩ := hrel
    have HU := Lib.hid hU
    clear hU
    by_cases hlt : k < 8
    case pos =>
      have k1 : (k : Int) < 8 := by omega
      have k2 : (0 : Int) ≤ k := by omega
      have P := Lib.hid (fun G : Grown wr => pend_b hlt G.W (HB.out.non (Upd.call G.h HU.out fun _ _ h => h)))
      have L := Lib.hid (fun G : Grown wr => lets_b hlt G.W (HB.out.non (Upd.call G.h HU.out fun _ _ h => h)))
      have B1 := Lib.hid (fun G : Grown wr => bits_wt HS.out HF.out hlt G.W)
      have B2 := Lib.hid (fun G : Grown wr => bits_le HS.out HF.out hlt G.W)
      obtain ⟨v, b1, _, _⟩ := HR.out.ex
      have b2 := Blk.upd HU.out b1 id
      have R1 := Lib.hid (rowOf_at b2 (o := k * 8) (by omega))
      have R2 := Lib.hid (show wr.rangeAt c (65 + k * 8) (rowOf f (64 + k * 8)) by rw [show 65 + k * 8 = 1 + (64 + k * 8) by omega]; exact rowOf_at b2 (by omega))
      clear b1 b2
      have hl1 : (rowOf f (k * 8)).length = 8 := rfl
      have hl2 : (rowOf f (64 + k * 8)).length = 8 := rfl
      generalize rowOf f (k * 8) = r1 at *
      generalize rowOf f (64 + k * 8) = r2 at *
      have hi1 : (Try.prog.info? 82).map (·.size) = some r1.length := by rw [hl1]; kernel_rfl
      have hi2 : (Try.prog.info? 82).map (·.size) = some r2.length := by rw [hl2]; kernel_rfl
      have HI1 := Lib.hid hi1
      have HI2 := Lib.hid hi2
      clear hl1 hl2 hi1 hi2
      go_wp2_with fail
      refine wp_region_grow (by kernel_rfl) (by kernel_rfl) ?_
      repeat (first
        | (go_big_quiet_want; refine quiet_mid 82 _ rfl c (1 + k * 8) rfl r1 _ R1.out Try.underlying82 rfl HI1.out ?_; go_simp; go_big_quiet_on)
        | (go_big_quiet_want; refine quiet_mid 82 _ rfl c (65 + k * 8) rfl r2 _ R2.out Try.underlying82 rfl HI2.out ?_; go_simp; go_big_quiet_on)
        | go_big_quiet_step ((first
            | (go_at_call 13; exact Grown.call_same (P.out _))
            | (go_at_call 21; exact Grown.call_same (L.out _))
            | (go_at_call_of 49 (Value.agg (List.toArray r1)); exact Grown.call (B1.out _))
            | (go_at_call_of 49 (Value.agg (List.toArray r2)); exact Grown.call (B2.out _)))))
      refine wpQuiet_nil ?_
      rintro ⟨w9, hU9⟩
      show Exit.then _ _ _ _ w9
      have HU9 := Lib.hid (Upd.call hU9 HU.out fun _ _ h => h)
      clear hU9 P L B1 B2
      go_wp2_with fail
      exact ⟨⟨k + 1, by omega, rfl, HU9.out⟩, by simp only [intOf]; omega⟩
    have k1 : ¬ (k : Int) < 8 := by omega
    obtain ⟨vr, hr1, hr2, _⟩ := HR.out.ex
    obtain ⟨A2, c2, rfl, hA2⟩ := hr2.slice
    have H1 := Lib.hid hr1
    have H2 := Lib.hid hr2
    have HA2 := Lib.hid hA2
    clear hr1 hr2 hA2
    obtain ⟨n, hn0⟩ : ∃ n, n = ws.length := ⟨_, rfl⟩
    have HN := Lib.hid hn0
    have c0 : wr.cell? ⟨c, 0, none⟩ = some (.slice A2 n c2) := by rw [hn0]; exact HU.out.cell_eq id (H1.out.cell 0 (renc_row _ _))
    rw [← hn0] at hn
    clear hn0
    go_wp2_with fail
    go_loopw [6] (fun i wy => ∃ t : Nat, t ≤ n ∧ i = .int .i64 t ∧ Upd Non w wy) (fun i _ => n - (intOf i).toNat)
    case atStart => exact ⟨0, Nat.zero_le _, rfl, HU.out⟩
    case round =>
      clear c0 HU
      obtain ⟨t, ht, rfl, hU⟩ := hrel
      have HU := Lib.hid hU
      have c0 : wr.cell? ⟨c, 0, none⟩ = some (.slice A2 n c2) := by rw [HN.out]; exact hU.cell_eq id (H1.out.cell 0 (renc_row _ _))
      clear hU
      by_cases hlt2 : t < n
      case pos =>
        have k3 : (t : Int) < n := by omega
        obtain ⟨x, hx⟩ : ∃ x, ws[t]? = some x := ⟨_, List.getElem?_eq_getElem (by rw [← HN.out]; exact hlt2)⟩
        obtain rfl := HA2.out (by rw [← HN.out]; omega)
        obtain ⟨_, r1, _, _⟩ := H2.out.at hx
        have g0 : ∀ G : Grown wr, G.W.cell? ⟨c, 0, none⟩ = some (.slice (some ⟨q, 0, none⟩) n c2) := fun G => G.cell c0
        have g1 : ∀ G : Grown wr, G.W.cell? ⟨q, t * 3 + 1, none⟩ = some (.int .i64 x.ln) := fun G => G.cell (HU.out.cell_eq id r1)
        have P := Lib.hid (fun G : Grown wr => line_yes hx G.W (HB.out.non (Upd.call G.h HU.out fun _ _ h => h)))
        clear r1 hx
        go_wp2_with fail
        refine wp_region_grow (by kernel_rfl) (by kernel_rfl) ?_
        repeat go_big_quiet_step ((go_at_call 20; exact Grown.call_same (P.out _)))
        refine wpQuiet_nil ?_
        rintro ⟨w9, hU9⟩
        show Exit.then _ _ _ _ w9
        have HU9 := Lib.hid (Upd.call hU9 HU.out fun _ _ h => h)
        clear hU9 P g0 g1 c0
        go_wp2_with fail
        exact ⟨⟨t + 1, by omega, rfl, HU9.out⟩, by simp only [intOf]; omega⟩
      have k3 : ¬ (t : Int) < n := by omega
      have HB2 := Lib.hid (HB.out.non HU.out)
      have L1 := Lib.hid (line_no (k := -1) (.inl (by decide)) wr HB2.out)
      have L2 := Lib.hid (show Calls Try.prog 20 #[.pointer (some ⟨b, 0, none⟩), .int .i64 (n : Int)] wr fun e w' => e = .returned (.int .i64 (-1)) ∧ wr = w' from line_no (.inr (by rw [HN.out]; omega)) wr HB2.out)
      have P1 := Lib.hid (pend_bad (k := -1) (.inl (by decide)) wr HB2.out)
      have P2 := Lib.hid (pend_bad (k := 8) (.inr (by decide)) wr HB2.out)
      have P3 := Lib.hid (lets_bad (k := 8) (.inr (by decide)) wr HB2.out)
      go_wp2_with fail
      refine L1.out.mono ?_
      rintro e w5 ⟨rfl, rfl⟩
      go_wp2_with fail
      refine L2.out.mono ?_
      rintro e w5 ⟨rfl, rfl⟩
      go_wp2_with fail
      refine P1.out.mono ?_
      rintro e w5 ⟨rfl, rfl⟩
      go_wp2_with fail
      refine P2.out.mono ?_
      rintro e w5 ⟨rfl, rfl⟩
      go_wp2_with fail
      refine P3.out.mono ?_
      rintro e w5 ⟨rfl, rfl⟩
      go_wp2_with fail
      go_ret
      exact ⟨rfl, HU.out⟩
end Go.Proofs.Ytkhhmkcpbefadaa
