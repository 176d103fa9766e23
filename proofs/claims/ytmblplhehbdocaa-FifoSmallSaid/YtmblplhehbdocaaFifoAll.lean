/- The fifo's All: what a range over it comes to, for any rounds. Conditions: the fifo is one whose blocks are known, of at most 2000 things. -/
import Derived.Test.YtmblplhehbdocaaFifoCopy
import Derived.Test.YtmblplhehbdocaaRange
import Derived.Deep.Cut
import Derived.Deep.CutBlock
namespace Go.Proofs.Ytmblplhehbdocaa
open Go.RowKit Go.Shelf
attribute [local go_sem] Oper.semAt_some

theorem all_spec (b : Nat) (w : World) : Calls Try.prog 43 #[.pointer (some ⟨b, 0, none⟩)] w fun e w' => e = .returned (.func (.func 80) #[] #[.pointer (some ⟨w.heap.size, 0, none⟩)]) ∧ w' = w.alloc (.cells #[.pointer (some ⟨b, 0, none⟩)] 32) := by
  go_enter Try.func43, Try.ntmps43
  go_wp2
  go_ret
  exact ⟨rfl, rfl⟩
set_option maxRecDepth 100000 in
set_option maxHeartbeats 8000000 in
theorem all_run {b m g l bx : Nat} {xs : List Int} (hn : xs.length ≤ 2000) (W : World) (hb : W.cell? ⟨bx, 0, none⟩ = some (.pointer (some ⟨b, 0, none⟩))) (hF : FI W b xs m g) (J : Nat → Nat → Nat → World → Prop) (Jx : World → Prop)
    (h0 : ∀ c g2 W', Upd Non W W' → c = W.heap.size → W.heap.size ≤ g2 → FI W' c xs m g2 → J c g2 0 W')
    (hFI : ∀ c g2 t W', J c g2 t W' → FI W' c xs m g2)
    (hdr : ∀ c g2 t k W', J c g2 t W' → J c g2 t (W'.drewN k))
    (hY : ∀ c g2 t v W', J c g2 t W' → xs[t]? = some v → YieldAt Fence.wide 2 Try.prog l #[.int .i64 t, .int .i64 v] W' fun e W2 => (e = .returned (.bool true) ∧ J c g2 (t + 1) W2) ∨ (e = .returned (.bool false) ∧ Jx W2)) :
    Calls Try.prog 80 #[.func (.yield l) #[] #[], .pointer (some ⟨bx, 0, none⟩)] W fun e W' => e = .returned (.tuple #[]) ∧ ((∃ c g2, J c g2 xs.length W') ∨ Jx W') := by
  have HF := Lib.hid hF
  clear hF
  go_enter Try.func80, Try.ntmps80
  go_wp2_with fail
  refine (copy_any hn _ HF.out).mono ?_
  rintro e w1 ⟨rfl, ⟨g2, hg2, hC⟩, U⟩
  obtain ⟨c, hc⟩ : ∃ x, x = W.heap.size := ⟨_, rfl⟩
  rw [← hc] at hC ⊢
  have HC := Lib.hid hC
  have HJ := Lib.hid (h0 c g2 _ U hc hg2 hC)
  clear hC U hc hg2 h0 hb
  go_wp2_with fail
  refine (len_any _ HC.out).mono ?_
  rintro e w2 ⟨rfl, rfl⟩
  go_wp2_with fail
  go_loopw [11] (fun i wr => ∃ t : Nat, t ≤ xs.length ∧ i = .int .i64 t ∧ J c g2 t wr) (fun i _ => xs.length - (intOf i).toNat)
  case atStart => exact ⟨0, Nat.zero_le _, rfl, HJ.out⟩
  case round =>
    clear HJ HC
    obtain ⟨t, ht, rfl, hJ⟩ := hrel
    have HJ := Lib.hid hJ
    clear hJ
    by_cases hlt : t < xs.length
    · have k1 : (t : Int) < xs.length := by omega
      obtain ⟨v, hv⟩ : ∃ v, xs[t]? = some v := ⟨_, List.getElem?_eq_getElem hlt⟩
      have HV := Lib.hid hv
      clear hv
      go_wp2_with fail
      refine (nth_is t v HV.out _ (hFI _ _ _ _ HJ.out)).mono ?_
      rintro e w3 ⟨rfl, k, rfl⟩
      have hJ3 := hdr _ _ _ k _ HJ.out
      obtain ⟨w3, hw3⟩ : ∃ x, x = wr.drewN k := ⟨_, rfl⟩
      rw [← hw3] at hJ3 ⊢
      obtain ⟨fn, tmps, assign, body, hy, hR⟩ := hY c g2 t v w3 hJ3 HV.out
      have HR := Lib.hid hR
      clear hR hJ3 hw3
      go_upto_region 5 with fail
      refine (wpIn_wide (n := 3)).1 ?_
      gi_wp2
      refine HR.out.mono ?_
      rintro e W3 (⟨rfl, hJ3⟩ | ⟨rfl, hJ3⟩)
      · have HJ3 := Lib.hid hJ3
        clear hJ3 HJ HR
        gi_wp2
        go_wp2_with fail
        go_roundw
        case rel => exact ⟨t + 1, by omega, by go_num, HJ3.out⟩
        case measure => simp [intOf]; omega
      · have HJ3 := Lib.hid hJ3
        clear hJ3 HJ HR
        gi_wp2
        go_wp2_with fail
        refine bodyPost_ret (results_none rfl _ _ _) rfl ?_
        exact ⟨rfl, .inr HJ3.out⟩
    · have k1 : ¬ (t : Int) < xs.length := by omega
      obtain rfl : t = xs.length := by omega
      go_wp2_with fail
      go_end0
      exact ⟨rfl, .inl ⟨c, g2, HJ.out⟩⟩
end Go.Proofs.Ytmblplhehbdocaa
