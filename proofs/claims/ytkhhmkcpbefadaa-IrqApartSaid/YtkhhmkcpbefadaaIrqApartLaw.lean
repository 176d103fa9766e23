/- IrqApart: the law's walk. Conditions: the devices' and deeds' cells are known. -/
import Derived.Test.YtkhhmkcpbefadaaIrqRound
import Derived.Test.YtkhhmkcpbefadaaMade
import Derived.Deep.CutBlock
import Derived.Deep.RegionWith
import Derived.Deep.DeepCutAuto
namespace Go.Proofs.Ytkhhmkcpbefadaa
open Go.RowKit
/-- The owners that have been written so far. -/
def owT (O : Nat → Int) (n t : Nat) : List Int := (List.range n).map fun i => if i < t then O i else 0
theorem owT_zero (O : Nat → Int) (n : Nat) : owI (owT O n 0) = (List.replicate n (Value.int .i64 0)).toArray := by
  unfold owI owT
  congr 1
  refine List.ext_getElem? fun i => ?_
  by_cases h : i < n
  · simp [h]
  · simp [h]
theorem owT_set (O : Nat → Int) {n t : Nat} (ht : t < n) : (owT O n t).set t (O t) = owT O n (t + 1) := by
  refine List.ext_getElem? fun i => ?_
  unfold owT
  rw [List.getElem?_set]
  by_cases h : i < n
  · by_cases e : t = i
    · subst e; simp [h]
    · simp [h, e, show (i < t + 1) = (i < t) by simp; omega]
  · simp [h, show ¬ t = i by omega]
theorem owT_end (O N : Nat → Int) (n : Nat) : owT O n n = ows (wiresOf O N n) := by
  refine List.ext_getElem? fun i => ?_
  by_cases h : i < n
  · rw [ows_at (wiresOf_at O N n i h)]; simp [owT, h]
  · rw [List.getElem?_eq_none_iff.2 (show (ows (wiresOf O N n)).length ≤ i by simp [ows, wiresOf_length]; omega)]; simp [owT, h]
theorem owT_length (O : Nat → Int) (n t : Nat) : (owT O n t).length = n := by simp [owT]
set_option maxRecDepth 100000 in
set_option maxHeartbeats 16000000 in
theorem apart_law (A : Option Addr) (n cc : Nat) (O N : Nat → Int) (D : Option Addr) (dc : Nat) (d : Deeds) (v : Int) (hn : n ≤ 2 ^ 48) (w : World) (hdev : DevsAt w A n O N) (hdeed : DeedsAt w D d) :
    Calls Try.prog 5 #[.slice A n cc, .slice D d.m dc, .int .i64 v] w fun e w' => e = .returned (.bool true) ∧ Upd Non w w' := by
  have HV := Lib.hid hdev
  have HD := Lib.hid hdeed
  clear hdev hdeed
  go_enter Try.func5, Try.ntmps5
  go_wp2_with (first | (go_at_call 8; refine (awake_ok w).mono ?_; rintro e w1 ⟨rfl, hU1⟩))
  have HU1 := Lib.hid hU1
  have HS := Lib.hid (size_of (A := A) (cc := cc) (D := D) (dc := dc) (d := d) hn (w := w1) ⟨fun hm => by
    obtain ⟨b, o, e, hc⟩ := HD.out.at' hm
    exact ⟨b, o, e, fun i hi => ⟨hU1.cell_eq id (hc i hi).h0, hU1.cell_eq id (hc i hi).h1, hU1.cell_eq id (hc i hi).h2, hU1.cell_eq id (hc i hi).h3⟩⟩, fun i hi hp => by
    obtain ⟨b, o, e, hc⟩ := HD.out.lv i hi hp
    exact ⟨b, o, e, fun j hj => hU1.cell_eq id (hc j hj)⟩, HD.out.big, HD.out.bigs⟩)
  clear hU1
  refine HS.out.mono ?_
  rintro e w2 ⟨z, rfl, hz, rfl⟩
  have HZ := Lib.hid hz
  clear HS hz
  by_cases q : z ≤ 400 ∧ 0 ≤ v ∧ v ≤ 7
  case neg =>
    have q' : 400 < z ∨ v < 0 ∨ 7 < v := by omega
    go_wp2_with fail
    all_goals first
      | (go_ret; exact ⟨rfl, HU1.out⟩)
      | (exfalso; omega)
  obtain ⟨q1, q2, q3⟩ := q
  obtain ⟨hn4, hm4, hl4⟩ := HZ.out q1
  have HL4 := Lib.hid hl4
  have HNew := Lib.hid (fun (W : World) (hu : Upd Non w W) => new_is A n cc O N (by omega) W fun hp => by
    obtain ⟨b, o, e, hc⟩ := HV.out hp
    refine ⟨b, o, e, fun i hi => ?_⟩
    obtain ⟨c0, c1, c2, e0, e1, e2, e3, e4⟩ := hc i hi
    exact ⟨c0, c1, c2, hu.cell_eq id e0, hu.cell_eq id e1, hu.cell_eq id e2, hu.cell_eq id e3, hu.cell_eq id e4⟩)
  have z1 : ¬ 400 < z := by omega
  have z2 : ¬ v < 0 := by omega
  have z3 : ¬ 7 < v := by omega
  clear hl4 HZ
  go_wp2_with fail
  refine (HNew.out _ HU1.out).mono ?_
  rintro e w3 ⟨hN, hU⟩
  have HU3 := Lib.hid (Upd.call hU HU1.out fun _ _ h => h)
  rcases hN with ⟨hG, h16, rfl, hB⟩ | ⟨hbad, rfl⟩
  case inr =>
    go_wp2_with fail
    refine (HNew.out _ HU3.out).mono ?_
    rintro e w4 ⟨hN, hU4⟩
    rcases hN with ⟨hG, h16, _, _⟩ | ⟨_, rfl⟩
    · exact absurd ⟨hG, h16⟩ hbad
    have HU4 := Lib.hid (Upd.call hU4 HU3.out fun _ _ h => h)
    clear hU hU4 hbad
    go_wp2_with fail
    go_ret
    exact ⟨rfl, HU4.out⟩
  obtain ⟨r, hB, hr⟩ := hB
  have hs1 := HU1.out.size
  have HB := Lib.hid (show AW w w3 w1.heap.size r (wiresOf O N n, WS.fresh) from ⟨hB, HU3.out, hs1, Nat.le_trans hs1 hr, wiresOf_fit _ _ _ hG⟩)
  have hbl : w1.heap.size < w3.heap.size := HB.out.ltb
  have hrl : r < w3.heap.size := HB.out.ltr
  obtain ⟨b, hb⟩ : ∃ x, x = w1.heap.size := ⟨_, rfl⟩
  rw [← hb] at HB hbl hs1 ⊢
  clear hB hr hU hb
  go_wp2_with fail
  refine (HNew.out _ HU3.out).mono ?_
  rintro e w4 ⟨hN, hU4⟩
  rcases hN with ⟨_, _, rfl, hC⟩ | ⟨hbad, _⟩
  case inr => exact absurd ⟨hG, h16⟩ hbad
  obtain ⟨q, hC, hq⟩ := hC
  have hs3 := HU3.out.size
  have HC := Lib.hid (show AW w w4 w3.heap.size q (wiresOf O N n, WS.fresh) from ⟨hC, Upd.call hU4 HU3.out fun _ _ h => h, hs3, Nat.le_trans hs3 hq, wiresOf_fit _ _ _ hG⟩)
  have HB4 := Lib.hid (HB.out.non hU4)
  have hcl : w3.heap.size < w4.heap.size := HC.out.ltb
  have hql : q < w4.heap.size := HC.out.ltr
  obtain ⟨c, hc⟩ : ∃ x, x = w3.heap.size := ⟨_, rfl⟩
  rw [← hc] at HC hbl hrl hcl hq hs3 ⊢
  have HQ0 := Lib.hid (show AQ w (w4.alloc (.cells (List.replicate n (Value.int .i64 0)).toArray 3)) b r c q w4.heap.size (wiresOf O N n, WS.fresh) (wiresOf O N n, WS.fresh) (owT O n 0) from
    ⟨HB4.out.non (Upd.refl _ _).alloc, HC.out.non (Upd.refl _ _).alloc, by rw [owT_zero]; exact Blk.new _ _ _, by omega, by omega, by omega, by omega, by omega, by omega, by omega, by omega, by omega⟩)
  obtain ⟨g, hg⟩ : ∃ x, x = w4.heap.size := ⟨_, rfl⟩
  rw [← hg] at HQ0
  have HG := Lib.hid hg
  have HGood := Lib.hid hG
  have HN16 := Lib.hid h16
  clear hC hq hU4 hc HB HB4 HC HU3 hbl hrl hcl hql hs3 hs1 hg hG HNew HU1
  go_wp2_with (at_make; refine wpList_make_row rfl _ _ 40 3 rfl (.int .i64 0) 8 Try.underlying40 (by kernel_rfl) rfl n rfl rfl (by omega) (by decide) ?_; rw [← HG.out])
  go_loopw [12] (fun i wr => ∃ t : Nat, t ≤ n ∧ i = .int .i64 t ∧ AQ w wr b r c q g (wiresOf O N n, WS.fresh) (wiresOf O N n, WS.fresh) (owT O n t)) (fun i _ => n - (intOf i).toNat)
  case atStart => exact ⟨0, Nat.zero_le _, rfl, HQ0.out⟩
  case round =>
    clear HQ0 HG
    obtain ⟨t, ht, rfl, hA⟩ := hrel
    have HA := Lib.hid hA
    clear hA
    by_cases hlt : t < n
    case pos =>
      have k1 : (t : Int) < n := by omega
      obtain ⟨ba, o, rfl, hdev⟩ := HV.out (by omega)
      obtain ⟨c0, c1, c2, d0, d1, d2, d3, d4⟩ := hdev t hlt
      have e3 := HA.out.B.up.cell_eq id d3
      obtain ⟨ow, how⟩ : ∃ x, x = O t := ⟨_, rfl⟩
      rw [← how] at e3
      have HO := Lib.hid how
      have l0 := HA.out.cell (i := t) (z := 0) (by simp [owT, hlt])
      have f0 := HA.out.O.frozen t
      clear hdev d0 d1 d2 d3 d4 how
      go_wp2_with fail
      exact ⟨⟨t + 1, by omega, rfl, by have h := HA.out.own t (O t); rw [owT_set O hlt] at h; rw [HO.out]; exact h⟩, by simp only [intOf]; omega⟩
    have k1 : ¬ (t : Int) < n := by omega
    obtain rfl : n = t := by omega
    have HQ := Lib.hid (show AQ w wr b r c q g (wiresOf O N n, WS.fresh) (wiresOf O N n, WS.fresh) (ows (wiresOf O N n)) by rw [← owT_end]; exact HA.out)
    clear HA HV
    obtain ⟨k, rfl⟩ : ∃ k : Nat, v = k := ⟨v.toNat, by omega⟩
    have hk8 : k < 8 := by omega
    go_wp2_with fail
    go_loopw [13] (fun i wr3 => ∃ (j : Nat) (p s : List WR × WS), j ≤ d.m ∧ i = .int .i64 j ∧ AR w wr3 b r c q g n k p s) (fun i _ => d.m - (intOf i).toNat)
    case atStart => exact ⟨0, _, _, Nat.zero_le _, rfl, HQ.out, Rel.refl _ _, wiresOf_length _ _ _⟩
    case round =>
      clear HQ
      obtain ⟨j, p, s, hj, rfl, hA⟩ := hrel
      have HA := Lib.hid hA
      clear hA
      by_cases hlt : j < d.m
      case neg =>
        have k1 : ¬ (j : Int) < d.m := by omega
        go_wp2_with fail
        go_ret
        exact ⟨rfl, HA.out.Q.B.up⟩
      have k1 : (j : Int) < d.m := by omega
      obtain ⟨bd, od, rfl, hde⟩ := HD.out.at' (by omega)
      have hdj := hde j hlt
      have hlv := HD.out.lv j hlt
      have hln := HL4.out j hlt
      obtain ⟨hh, ehh⟩ : ∃ x, x = d.H j := ⟨_, rfl⟩
      obtain ⟨nn, enn⟩ : ∃ x, x = d.N j := ⟨_, rfl⟩
      obtain ⟨kk, ekk⟩ : ∃ x, x = d.K j := ⟨_, rfl⟩
      obtain ⟨LA, eLA⟩ : ∃ x, x = d.LA j := ⟨_, rfl⟩
      obtain ⟨ln, eln⟩ : ∃ x, x = d.LN j := ⟨_, rfl⟩
      obtain ⟨lc, elc⟩ : ∃ x, x = d.LC j := ⟨_, rfl⟩
      obtain ⟨LV, eLV⟩ : ∃ x, x = d.LV j := ⟨_, rfl⟩
      rw [← ehh, ← enn, ← ekk, ← eLA, ← eln, ← elc] at hdj
      rw [← eLA, ← eln, ← eLV] at hlv
      rw [← eln] at hln
      have HLV := Lib.hid hlv
      have HDJ := Lib.hid hdj
      have hp5 : p.1.length = n := HA.out.L
      clear hde hdj hlv ehh enn ekk eLA eln elc eLV
      go_upto_block 3 with fail
      refine wp_flat ?_
      refine wp_of_eq (c' := blk3) (by kernel_rfl) ?_
      have hcases : (∃ i : Nat, ∃ x, nn = i ∧ p.1[i]? = some x) ∨ (n : Int) ≤ nn ∨ nn < 0 := by
        by_cases h1 : nn < 0
        · exact .inr (.inr h1)
        · by_cases h2 : (n : Int) ≤ nn
          · exact .inr (.inl h2)
          · exact .inl ⟨nn.toNat, _, by omega, List.getElem?_eq_getElem (by omega)⟩
      rcases hcases with ⟨i, x, rfl, hx⟩ | hout | hout
      · refine rnd_in _ _ hk8 HN16.out hln hlt HA.out HDJ.out HLV.out hx ?_
        intros
        rename_i w' hAR
        obtain ⟨p2, s2, hA2⟩ := hAR
        have HA2 := Lib.hid hA2
        clear hA2
        show Exit.then _ (fun _ _ _ => True) Exit.normal _ _
        go_wp2_with fail
        exact ⟨⟨j + 1, p2, s2, by omega, rfl, HA2.out⟩, by simp only [intOf]; omega⟩
      · refine rnd_over _ _ hk8 HN16.out hln hlt HA.out HDJ.out HLV.out hout ?_
        intros
        rename_i w' hAR
        obtain ⟨p2, s2, hA2⟩ := hAR
        have HA2 := Lib.hid hA2
        clear hA2
        show Exit.then _ (fun _ _ _ => True) Exit.normal _ _
        go_wp2_with fail
        exact ⟨⟨j + 1, p2, s2, by omega, rfl, HA2.out⟩, by simp only [intOf]; omega⟩
      · refine rnd_neg _ _ hk8 HN16.out hln hlt HA.out HDJ.out HLV.out hout ?_
        intros
        rename_i w' hAR
        obtain ⟨p2, s2, hA2⟩ := hAR
        have HA2 := Lib.hid hA2
        clear hA2
        show Exit.then _ (fun _ _ _ => True) Exit.normal _ _
        go_wp2_with fail
        exact ⟨⟨j + 1, p2, s2, by omega, rfl, HA2.out⟩, by simp only [intOf]; omega⟩
end Go.Proofs.Ytkhhmkcpbefadaa
