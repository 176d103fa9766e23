/- A deed on both boards: the board is left for a copy of it. Conditions: both are known, and agree. -/
import Derived.Test.YtkhhmkcpbefadaaIrqDeed
import Derived.Test.YtkhhmkcpbefadaaIrqPair
import Derived.Test.YtkhhmkcpbefadaaMade
namespace Go.Proofs.Ytkhhmkcpbefadaa
open Go.RowKit
theorem look_any {W : World} {b r : Nat} {p : List WR × WS} (h : BI W b r p.1 p.2) (hf : Fit p.1 p.2) {n : Nat} (hn2 : n ≤ 100000) (A : Option Addr) (cc : Nat) (LV : Nat → Bool)
    (hl : 0 < n → ∃ g o, A = some ⟨g, o, none⟩ ∧ g ≠ b ∧ g ≠ r ∧ ∀ i, i < n → W.cell? ⟨g, o + i, none⟩ = some (.bool (LV i))) :
    Calls Try.prog 12 #[.pointer (some ⟨b, 0, none⟩), .slice A n cc] W fun e w' => e = .returned (.int .i64 (lookZ p n)) ∧ BI w' b r (lookP p LV n).1 (lookP p LV n).2 ∧ Upd (fun i => i = b ∨ i = r) W w' := by
  unfold lookZ lookP
  by_cases hn : n = p.1.length
  · rw [if_pos hn, if_pos hn]
    subst hn
    exact (look_b A cc LV hn2 W hf h hl).mono fun _ _ ⟨e, hb, hu⟩ => ⟨e, hb, hu⟩
  · rw [if_neg hn, if_neg hn]
    exact (look_bad A n cc hn W h).mono fun _ _ ⟨e, hu⟩ => hu ▸ ⟨e, h, Upd.refl _ _⟩
theorem mask_some {ws : List WR} {s : WS} {b r m : Nat} (k : Int) (w : World) (h : BI w b r ws s) :
    Calls Try.prog 11 #[.pointer (some ⟨b, 0, none⟩), .int .i64 k, .int .u8 m] w fun e w' => ∃ z, e = .returned (.int .i64 z) ∧ (∃ s', BI w' b r ws s') ∧ Upd (fun i => i = b ∨ i = r) w w' := by
  by_cases hk : badW k
  · refine (mask_bad hk w h).mono ?_
    rintro e w' ⟨rfl, rfl⟩
    exact ⟨_, rfl, ⟨s, h⟩, Upd.refl _ _⟩
  · obtain ⟨k, rfl, hk8⟩ := good_nat hk
    refine (mask_b hk8 w h).mono ?_
    rintro e w' ⟨rfl, hb, hu⟩
    exact ⟨_, rfl, ⟨_, hb⟩, hu.mono fun _ _ h => .inl h⟩
set_option maxRecDepth 100000 in
set_option maxHeartbeats 16000000 in
theorem one1_copy {w W : World} {pc b r c q : Nat} {p : List WR × WS} {f : Nat → Bool} (hh nn kk : Int) (LA : Option Addr) (ln lc : Nat) (hn : p.1.length ≤ 1000) (h6 : hh % 7 = 6) (h : DS w W pc b r c q p f) :
    Calls Try.prog 26 #[.pointer (some ⟨pc, 0, none⟩), .pointer (some ⟨c, 0, none⟩), .agg #[.int .i64 hh, .int .i64 nn, .int .i64 kk, .slice LA ln lc]] W fun e w' => e = .returned (.bool true) ∧ ∃ b' r' p' f', p'.1.length = p.1.length ∧ DS w w' pc b' r' c q p' f' := by
  have H := Lib.hid h
  have c0 : W.cell? ⟨pc, 0, none⟩ = some (.pointer (some ⟨b, 0, none⟩)) := h.P.cell 0 rfl
  have hpl := h.P.lt
  clear h
  go_enter Try.func26, Try.ntmps26
  go_wp2_with fail
  refine (pick_is hh _).mono ?_
  rintro e w1 ⟨rfl, rfl⟩
  rw [h6]
  obtain ⟨dd, hdd⟩ : ∃ x, x = W.heap.size := ⟨_, rfl⟩
  obtain ⟨wa, hwa⟩ : ∃ x, x = W.alloc (.cells #[.int .i64 hh, .int .i64 nn, .int .i64 kk, .slice LA ln lc] 45) := ⟨_, rfl⟩
  have HD := Lib.hid (show Blk wa dd #[.int .i64 hh, .int .i64 nn, .int .i64 kk, .slice LA ln lc] 45 by rw [hwa]; exact Blk.newAt hdd)
  have HA := Lib.hid (show DS w wa pc b r c q p f by rw [hwa]; exact H.out.non (Upd.refl _ _).alloc)
  have hne : dd ≠ b ∧ dd ≠ r := ⟨by have := H.out.B.ltb; omega, by have := H.out.B.lt; omega⟩
  have HN := Lib.hid hne
  rw [← hdd, ← hwa]
  clear hwa hdd hne c0 hpl h6
  go_wp2_with fail
  refine (copy_b hn wa HA.out.B).mono ?_
  rintro e w2 ⟨rfl, ⟨qb, hO, hqb⟩, hu⟩
  have HA2 := Lib.hid (HA.out.non hu)
  have HD2 := Lib.hid (Blk.upd hu HD.out id)
  have h1 := HA.out.B.ltb
  have h2 := HA.out.B.lt
  have h3 := HA.out.R.ltb
  have h4 := HA.out.R.lt
  have h5 := HA.out.P.lt
  have hws := HA.out.up.size
  obtain ⟨cb, hcb⟩ : ∃ x, x = wa.heap.size := ⟨_, rfl⟩
  rw [← hcb] at hO hqb ⊢
  have HO := Lib.hid hO
  have hfar : (cb ≠ b ∧ cb ≠ r ∧ cb ≠ c ∧ cb ≠ q ∧ cb ≠ pc) ∧ (qb ≠ b ∧ qb ≠ r ∧ qb ≠ c ∧ qb ≠ q ∧ qb ≠ pc) ∧ w.heap.size ≤ cb ∧ w.heap.size ≤ qb := by omega
  have HF := Lib.hid hfar
  clear hO hqb hu h1 h2 h3 h4 h5 hws hcb hfar HA HD
  obtain ⟨n, hn0⟩ : ∃ n, n = p.1.length := ⟨_, rfl⟩
  have HNN := Lib.hid hn0
  rw [← hn0] at hn
  clear hn0
  go_wp2_with fail
  go_loopw [14] (fun i wr => ∃ (t : Nat) (p2 : List WR × WS), t ≤ n ∧ i = .int .i64 t ∧ BI wr b r p2.1 p2.2 ∧ Fit p2.1 p2.2 ∧ p2.1.length = n ∧ Upd (fun i => i = b ∨ i = r) w2 wr) (fun i _ => n - (intOf i).toNat)
  case atStart => exact ⟨0, p, Nat.zero_le _, rfl, HA2.out.B, HA2.out.fit, HNN.out.symm, Upd.refl _ _⟩
  case round =>
    obtain ⟨t, p2, ht, rfl, hB, hf, hl, hU⟩ := hrel
    have HB := Lib.hid hB
    have HFT := Lib.hid hf
    have HL := Lib.hid hl
    have HU := Lib.hid hU
    obtain ⟨n1, n2, n3, n4, n5, n6, n7, n8⟩ := HA2.out.ne
    obtain ⟨vr, hr1, hr2, _⟩ := (HA2.out.R.upd hU (fun e => e.elim (fun e => n5 e.symm) (fun e => n7 e.symm)) (fun e => e.elim (fun e => n6 e.symm) (fun e => n8 e.symm))).ex
    obtain ⟨A2, c2, rfl, _⟩ := hr2.slice
    have c0 : wr.cell? ⟨c, 0, none⟩ = some (.slice A2 n c2) := by rw [HNN.out]; exact hr1.cell 0 (renc_row _ _)
    clear hB hf hl hU hr1 hr2 n1 n2 n3 n4 n5 n6 n7 n8
    by_cases hlt : t < n
    case pos =>
      have k1 : (t : Int) < n := by omega
      go_wp2_with fail
      refine (own_b (t : Int) 5 wr HB.out).mono ?_
      rintro e w5 ⟨rfl, hB5, hu5⟩
      have HB5 := Lib.hid hB5
      have HU5 := Lib.hid (Upd.call hu5 HU.out fun _ _ h => .inr h)
      clear hB5 hu5
      go_wp2_with fail
      refine (route_b (t : Int) 6 w5 HB5.out).mono ?_
      rintro e w6 ⟨rfl, hB6, hu6⟩
      have HB6 := Lib.hid hB6
      have HU6 := Lib.hid (Upd.call hu6 HU5.out fun _ _ h => .inr h)
      clear hB6 hu6
      go_wp2_with fail
      exact ⟨⟨t + 1, (routeW (ownW p2.1 t 5) t 6, p2.2), by omega, rfl, HB6.out, Fit.routed (p := (ownW p2.1 t 5, p2.2)) (HFT.out.owned t 5) t 6, by rw [routeW_length, ownW_length]; exact HL.out, HU6.out⟩, by simp only [intOf]; omega⟩
    have k1 : ¬ (t : Int) < n := by omega
    obtain ⟨m, hm, _⟩ := byte_of nn
    have hbl := HB.out.ltb
    have hrl := HB.out.lt
    have LK := Lib.hid (look_any (HB.out.non (w' := wr.alloc (.cells (Array.replicate n (Value.bool false)) 4)) (Upd.refl _ _).alloc) HFT.out (n := n) (by omega) (some ⟨wr.heap.size, 0, none⟩) n (fun _ => false) (fun hp => ⟨wr.heap.size, 0, rfl, by omega, by omega, fun i hi => by
      rw [Nat.zero_add]
      exact (Blk.new wr _ _).cell i (by simp [hi])⟩))
    have f1 : wr.cell? ⟨dd, 1, none⟩ = some (.int .i64 nn) := Blk.cell (Blk.upd HU.out HD2.out (fun e => e.elim HN.out.1 HN.out.2)) 1 rfl
    clear hbl hrl
    go_wp2_with (at_make; refine wpList_make_row rfl _ _ 22 4 rfl (.bool false) 1 Try.underlying22 (by kernel_rfl) rfl n rfl rfl (by omega) (by decide) ?_)
    refine LK.out.mono ?_
    rintro e w5 ⟨rfl, hB5, hu5⟩
    have HB5 := Lib.hid hB5
    have HU5 := Lib.hid (Upd.call hu5 HU.out.alloc fun _ _ h => h)
    have f1' : w5.cell? ⟨dd, 1, none⟩ = some (.int .i64 nn) := Blk.cell (Blk.upd HU5.out HD2.out (fun e => e.elim HN.out.1 HN.out.2)) 1 rfl
    have f2' : w5.cell? ⟨dd, 2, none⟩ = some (.int .i64 kk) := Blk.cell (Blk.upd HU5.out HD2.out (fun e => e.elim HN.out.1 HN.out.2)) 2 rfl
    clear hB5 hu5 f1 c0
    go_wp2_with fail
    refine (mask_some (m := m) kk w5 HB5.out).mono ?_
    rintro e w6 ⟨z, rfl, ⟨s6, hB6⟩, hu6⟩
    have HB6 := Lib.hid hB6
    have HU6 := Lib.hid (Upd.call hu6 HU5.out fun _ _ h => h)
    clear hB6 hu6 f1' f2'
    go_wp2_with fail
    refine (mask_b (k := 5) (m := 1) (by decide) w6 HB6.out).mono ?_
    rintro e w7 ⟨rfl, _, hu7⟩
    have HU7 := Lib.hid (Upd.call hu7 HU6.out fun _ _ h => .inl h)
    have HP7 := Lib.hid (Blk.upd HU7.out HA2.out.P (fun e => e.elim HA2.out.ne.1 HA2.out.ne.2.1))
    have p0 : w7.cell? ⟨pc, 0, none⟩ = some (.pointer (some ⟨b, 0, none⟩)) := HP7.out.cell 0 rfl
    have pf := HP7.out.frozen 0
    clear hu7
    go_wp2_with fail
    go_ret
    obtain ⟨⟨f1, f2, f3, f4, f5⟩, ⟨g1, g2, g3, g4, g5⟩, l1, l2⟩ := HF.out
    obtain ⟨n1, n2, n3, n4, n5, n6, n7, n8⟩ := HA2.out.ne
    have U8 : Upd (fun i => i = b ∨ i = r ∨ i = pc) w2 (w7.setCell ⟨pc, 0, none⟩ (.pointer (some ⟨cb, 0, none⟩))) := (HU7.out.mono (T := fun i => i = b ∨ i = r ∨ i = pc) fun _ _ h => h.elim .inl fun h => .inr (.inl h)).setCell (.inl (.inr (.inr rfl)))
    refine ⟨rfl, cb, qb, p, f, rfl, ⟨?_, HO.out.upd U8 (by omega) (by omega), HA2.out.R.upd U8 (by omega) (by omega), HA2.out.bt, HA2.out.fit, ?_, HA2.out.lp, l1, l2, HA2.out.lc, HA2.out.lq, ?_⟩⟩
    · exact Blk.eq (Blk.set HP7.out) rfl
    · exact Upd.call U8 HA2.out.up (fun i hi e => by have := HA2.out.lb; have := HA2.out.lr; have := HA2.out.lp; omega)
    · omega
end Go.Proofs.Ytkhhmkcpbefadaa
