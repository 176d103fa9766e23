/- The law's own comparison (same) returns true. Conditions: the program's ports are the document's. -/
import Derived.Test.YtmblplhehbdocaaPortAll
import Derived.Test.YtmblplhehbdocaaIRow2
import Derived.Test.YtmblplhehbdocaaInts
import Derived.Test.YtmblplhehbdocaaRange2
import Derived.Deep.CutRange
namespace Go.Proofs.Ytmblplhehbdocaa
open Go.RowKit Go.Shelf
attribute [local go_sem] Oper.semAt_some

/-- The worlds below t in which an ask waits. -/
def upto (s : QS) : Nat → List Int
  | 0 => []
  | t + 1 => if s.st t = 1 then upto s t ++ [(t : Int)] else upto s t
theorem upto_yes {s : QS} {t : Nat} (h : s.st t = 1) : upto s (t + 1) = upto s t ++ [(t : Int)] := by rw [upto, if_pos h]
theorem upto_no {s : QS} {t : Nat} (h : ¬ s.st t = 1) : upto s (t + 1) = upto s t := by rw [upto, if_neg h]
theorem upto_le (s : QS) (t : Nat) : (upto s t).length ≤ t := by
  induction t with
  | zero => exact Nat.le_refl _
  | succ t ih =>
    rw [upto]
    split
    · rw [List.length_append, List.length_singleton]; omega
    · omega
/-- Where the first walk is, behind i rounds. -/
def seen (s : QS) (i : Nat) : List Int := upto s (min (i - 1) 8)
theorem seen_le (s : QS) (i : Nat) : (seen s i).length ≤ 8 := Nat.le_trans (upto_le _ _) (Nat.min_le_right _ _)

theorem look_is {s : QS} {b : Nat} {k : Int} (A : AK) (O : Bool) (hA : s.lookA k = A) (hO : s.lookO k = O) (w : World) (hb : QBlk w b s) :
    Calls Try.prog 41 #[.pointer (some ⟨b, 0, none⟩), .int .i64 k] w fun e w' => e = .returned (.tuple #[.agg A.enc, .bool O]) ∧ Upd Non w w' := by
  subst hA hO; exact look_any s b k w hb
theorem stE_is {s : QS} {b : Nat} {k : Int} (E : Int) (hE : s.stE k = E) (w : World) (hb : QBlk w b s) :
    Calls Try.prog 34 #[.pointer (some ⟨b, 0, none⟩), .int .i64 k] w fun e w' => e = .returned (.int .i64 E) ∧ w = w' := by
  subst hE; exact state_any s b k w hb
theorem rst_is {r : RS} {rr : Nat} {k : Int} (E : Int) (hE : r.qs.stE k = E) (w : World) (hb : RBlk w rr r) :
    Calls Try.prog 90 #[.pointer (some ⟨rr, 0, none⟩), .int .i64 k] w fun e w' => e = .returned (.int .i64 E) ∧ w = w' := by
  subst hE; exact rstate_any r rr k w hb

/-- What holds between two rounds of the first walk. -/
structure SP (w : World) (b rr b3 b4 : Nat) (r : RS) (v : Value) (rw : Nat) (xs : List Int) (W : World) : Prop where
  q : QBlk W b r.qs
  r : RBlk W rr r
  x3 : Blk W b3 #[.pointer (some ⟨rr, 0, none⟩)] 106
  x4 : Blk W b4 #[.bool false] 4
  row : IRow W w.heap.size v xs rw
  sep : v ≠ .slice none 0 0 → rw ≠ b3 ∧ rw ≠ b4
  up : Upd Non w W
theorem SP.non {w W W' : World} {b rr b3 b4 rw : Nat} {r : RS} {v : Value} {xs : List Int} (h : SP w b rr b3 b4 r v rw xs W) (u : Upd Non W W') : SP w b rr b3 b4 r v rw xs W' :=
  ⟨QBlk.upd u h.q id, RBlk.upd u h.r id, Blk.upd u h.x3 id, Blk.upd u h.x4 id, h.row.non u, h.sep, Upd.call u h.up fun _ _ h => h⟩
theorem SP.push {w W W' : World} {b rr b3 b4 rw rw' : Nat} {r : RS} {v v' : Value} {xs xs' : List Int} (h : SP w b rr b3 b4 r v rw xs W) (hb : b < w.heap.size ∧ rr < w.heap.size ∧ b3 < W.heap.size ∧ b4 < W.heap.size)
    (u : Upd (fun i => i = rw ∧ v ≠ .slice none 0 0) W W') (hr : (rw' = rw ∧ v ≠ .slice none 0 0) ∨ W.heap.size ≤ rw') (hrow : IRow W' w.heap.size v' xs' rw') : SP w b rr b3 b4 r v' rw' xs' W' := by
  have hlo := h.row.lo
  refine ⟨QBlk.upd u h.q (fun e => by omega), RBlk.upd u h.r (fun e => by omega), Blk.upd u h.x3 (fun e => (h.sep e.2).1 e.1.symm), Blk.upd u h.x4 (fun e => (h.sep e.2).2 e.1.symm), hrow, fun _ => ?_, Upd.call u h.up (fun i hi e => by omega)⟩
  rcases hr with ⟨e, hv⟩ | e
  · rw [e]; exact h.sep hv
  · omega

/-- What holds between two calls of yield, but for the loop's record. -/
structure SK (w : World) (D1 b rr b3 b4 b11 bx l : Nat) (r : RS) (u5 : Value) (rw0 b2 D t : Nat) (W : World) : Prop where
  sp : SP w b rr b3 b4 r u5 rw0 (upto r.qs 8) W
  xx : W.cell? ⟨bx, 0, none⟩ = some (.pointer (some ⟨b, 0, none⟩))
  x2 : W.cell? ⟨b2, 0, none⟩ = some (.func (.yield l) #[] #[])
  row : ∃ v r2, Blk W b11 #[v] 31 ∧ IRow W w.heap.size v (upto r.qs t) r2 ∧ (r2 = b11 ∨ D + 2 ≤ r2) ∧ (v ≠ .slice none 0 0 → D + 2 ≤ r2)
  con : w.heap.size ≤ D1 ∧ b < w.heap.size ∧ rr < w.heap.size ∧ b3 < D1 ∧ b4 < D1 ∧ b11 < D1 ∧ bx < D1 ∧ rw0 < D1 ∧ D1 + 2 ≤ b2 ∧ b2 < D ∧ D + 2 ≤ W.heap.size ∧ b11 ≠ b3 ∧ b11 ≠ b4 ∧ rw0 ≠ b11 ∧ w.heap.size ≤ b11 ∧ bx ≠ b11
theorem SP.upd {S : Nat → Prop} {w W W' : World} {b rr b3 b4 rw : Nat} {r : RS} {v : Value} {xs : List Int} (h : SP w b rr b3 b4 r v rw xs W) (u : Upd S W W') (h1 : ¬ S b) (h2 : ¬ S rr) (h3 : ¬ S b3) (h4 : ¬ S b4) (h5 : ¬ S rw) (h6 : ∀ i, i < w.heap.size → ¬ S i) : SP w b rr b3 b4 r v rw xs W' :=
  ⟨QBlk.upd u h.q h1, RBlk.upd u h.r h2, Blk.upd u h.x3 h3, Blk.upd u h.x4 h4, h.row.upd u h5, h.sep, Upd.call u h.up fun i hi hs => absurd hs (h6 i hi)⟩
theorem SK.upd {S : Nat → Prop} {w W W' : World} {D1 b rr b3 b4 b11 bx l rw0 b2 D t : Nat} {r : RS} {u5 : Value} (h : SK w D1 b rr b3 b4 b11 bx l r u5 rw0 b2 D t W) (u : Upd S W W') (hS : ∀ i, S i → i = D1 ∨ i = D1 + 1 ∨ i = D ∨ i = D + 1) :
    SK w D1 b rr b3 b4 b11 bx l r u5 rw0 b2 D t W' := by
  have hc := h.con
  have no : ∀ i, i ≠ D1 → i ≠ D1 + 1 → i ≠ D → i ≠ D + 1 → ¬ S i := fun i h1 h2 h3 h4 hs => by have := hS i hs; omega
  obtain ⟨v, r2, k1, k2, k3, k4⟩ := h.row
  have hz := u.size
  exact ⟨h.sp.upd u (no _ (by omega) (by omega) (by omega) (by omega)) (no _ (by omega) (by omega) (by omega) (by omega)) (no _ (by omega) (by omega) (by omega) (by omega)) (no _ (by omega) (by omega) (by omega) (by omega)) (no _ (by omega) (by omega) (by omega) (by omega)) (fun i hi => no _ (by omega) (by omega) (by omega) (by omega)),
    u.cell_eq (no _ (by dsimp only; omega) (by dsimp only; omega) (by dsimp only; omega) (by dsimp only; omega)) h.xx, u.cell_eq (no _ (by dsimp only; omega) (by dsimp only; omega) (by dsimp only; omega) (by dsimp only; omega)) h.x2,
    ⟨v, r2, Blk.upd u k1 (no _ (by omega) (by omega) (by omega) (by omega)), k2.upd u (no _ (by omega) (by omega) (by omega) (by omega)), k3, k4⟩, by omega⟩
theorem SK.pass {w W : World} {D1 b rr b3 b4 b11 bx l rw0 b2 D t : Nat} {r : RS} {u5 : Value} (h : SK w D1 b rr b3 b4 b11 bx l r u5 rw0 b2 D t W) (hs : ¬ r.qs.st t = 1) : SK w D1 b rr b3 b4 b11 bx l r u5 rw0 b2 D (t + 1) W := by
  obtain ⟨v, r2, k1, k2, k3, k4⟩ := h.row
  exact ⟨h.sp, h.xx, h.x2, ⟨v, r2, k1, by rw [upto_no hs]; exact k2, k3, k4⟩, h.con⟩
set_option maxRecDepth 100000 in
set_option maxHeartbeats 16000000 in
theorem sameP {b rr : Nat} {r : RS} (ok : r.Ok) (w : World) (hQ : QBlk w b r.qs) (hR : RBlk w rr r) :
    Calls Try.prog 60 #[.pointer (some ⟨b, 0, none⟩), .pointer (some ⟨rr, 0, none⟩)] w fun e w' => e = .returned (.bool true) ∧ Upd Non w w' := by
  have hlt : b < w.heap.size ∧ rr < w.heap.size := ⟨hQ.blk.lt, hR.blk.lt⟩
  have HQ := Lib.hid hQ
  have HR := Lib.hid hR
  have OK := Lib.hid ok
  clear hQ hR ok
  refine calls_of_wp_range Try.func60 rfl ?_
  simp only [Try.ntmps60, List.size_toArray, List.length_cons, List.length_nil, Nat.reduceAdd, Nat.reduceSub, Array.replicate_succ, Array.replicate_zero, List.push_toArray, List.append_toArray, List.nil_append, List.cons_append]
  go_wp2_with fail
  obtain ⟨w1, hw1⟩ : ∃ x, x = (w.alloc (.cells #[.pointer (some ⟨rr, 0, none⟩)] 106)).alloc (.cells #[.bool false] 4) := ⟨_, rfl⟩
  obtain ⟨b4, hb4⟩ : ∃ x, x = w.heap.size + 1 := ⟨_, rfl⟩
  obtain ⟨b3, hb3⟩ : ∃ x, x = w.heap.size := ⟨_, rfl⟩
  have hS : SP w b rr b3 b4 r (.slice none 0 0) b3 (seen r.qs 0) w1 := by
    have hu : Upd Non w w1 := by rw [hw1]; ((with_reducible repeat' first | exact Upd.refl _ _ | apply Upd.drew | apply Upd.drewN | apply Upd.alloc | refine Upd.setCell ?_ ?_) <;> first | (intro _ _ h; exact h) | (intro _ _ h; exact h.elim) | (intro i h1 h2; exfalso; (try simp only at h2); omega) | (left; rfl) | (right; dsimp only; omega) | (right; omega))
    have h3 : Blk w1 b3 #[.pointer (some ⟨rr, 0, none⟩)] 106 := by rw [hw1]; exact Blk.alloc (Blk.newAt hb3)
    exact ⟨QBlk.upd hu HQ.out id, RBlk.upd hu HR.out id, h3, by rw [hw1]; exact Blk.newAt (by rw [World.size_alloc]; exact hb4), IRow.nil _ (by omega) h3.lt, fun h => absurd rfl h, hu⟩
  have HS := Lib.hid hS
  have hbb : w.heap.size ≤ b3 ∧ w.heap.size ≤ b4 ∧ b3 ≠ b4 ∧ b3 < w1.heap.size ∧ b4 < w1.heap.size := ⟨by omega, by omega, by omega, hS.x3.lt, hS.x4.lt⟩
  rw [← hw1, ← hb4, ← hb3]
  clear hw1 hb4 hb3 hS HQ HR
  go_loopw [5, 6] (fun v i wr => ∃ (k rw0 : Nat), k ≤ 10 ∧ i = .int .i64 ((k : Int) - 1) ∧ SP w b rr b3 b4 r v rw0 (seen r.qs k) wr) (fun _ i _ => 10 - (intOf i + 1).toNat)
  case atStart => exact ⟨0, b3, by omega, rfl, HS.out⟩
  case round =>
    clear HS
    obtain ⟨k, rw0, hk, rfl, hS⟩ := hrel
    have HS := Lib.hid hS
    clear hS
    by_cases hlt : k < 10
    case neg =>
      obtain rfl : k = 10 := by omega
      clear hlt hk
      have hseen : seen r.qs 10 = upto r.qs 8 := rfl
      rw [hseen] at HS
      clear hseen
      rw [show ((10 : Nat) : Int) - 1 = 9 from rfl]
      go_wp2_with fail
      refine (allp_spec b _).mono ?_
      rintro e w4 ⟨rfl, hw4⟩
      obtain ⟨b11, hb11⟩ : ∃ x, x = wr.heap.size := ⟨_, rfl⟩
      obtain ⟨bx, hbx⟩ : ∃ x, x = wr.heap.size + 1 := ⟨_, rfl⟩
      have hX11 : Blk w4 b11 #[.slice none 0 0] 31 := by rw [hw4]; exact Blk.alloc (Blk.newAt hb11)
      have hXX : w4.cell? ⟨bx, 0, none⟩ = some (.pointer (some ⟨b, 0, none⟩)) := by
        have : Blk w4 bx #[.pointer (some ⟨b, 0, none⟩)] 40 := by rw [hw4]; exact Blk.newAt (by rw [World.size_alloc]; exact hbx)
        exact this.cell 0 rfl
      have HS4 := Lib.hid (HS.out.non (show Upd Non wr w4 by rw [hw4]; ((with_reducible repeat' first | exact Upd.refl _ _ | apply Upd.drew | apply Upd.drewN | apply Upd.alloc | refine Upd.setCell ?_ ?_) <;> first | (intro _ _ h; exact h) | (intro _ _ h; exact h.elim) | (intro i h1 h2; exfalso; (try simp only at h2); omega) | (left; rfl) | (right; dsimp only; omega) | (right; omega))))
      have hbe : ({ block := (wr.alloc (.cells #[.slice none 0 0] 31)).heap.size, off := 0, spot := none } : Addr) = ⟨bx, 0, none⟩ := by rw [World.size_alloc, hbx]
      have HX11 := Lib.hid hX11
      have HXX := Lib.hid hXX
      have hsz : w.heap.size ≤ b11 ∧ b11 ≠ b3 ∧ b11 ≠ b4 ∧ b11 < w4.heap.size ∧ bx < w4.heap.size ∧ b3 < w4.heap.size ∧ b4 < w4.heap.size ∧ rw0 < w4.heap.size ∧ rw0 ≠ b11 ∧ bx ≠ b11 := by
        have h1 := HS.out.x3.lt
        have h2 := HS.out.x4.lt
        have h3 := HS.out.up.size
        have h4 := HS.out.row.lt
        have h5 := hX11.lt
        have h6 := HS4.out.x3.lt
        have h7 := World.block_lt_of_cell? _ _ hXX
        have h8 := HS4.out.x4.lt
        have h9 := HS4.out.row.lt
        dsimp only at h7
        omega
      rw [← hb11, hbe]
      clear hw4 hX11 hXX hb11 hbx hbe HS
      go_wp2_with fail
      obtain ⟨A5, c5, rfl⟩ := HS4.out.row.slice
      refine wp_range (gf := 91) (lb := #[.pointer (some ⟨bx, 0, none⟩)]) rfl (enters_of Try.func91 (by kernel_rfl) rfl) ?_
      intro fn rec hrec W1 hL hU1 hz
      obtain ⟨D1, hD1⟩ : ∃ D, D = w4.heap.size := ⟨_, rfl⟩
      rw [← hD1] at hrec hL hz hsz ⊢
      have HREC := Lib.hid hrec
      have hcon : b3 < D1 ∧ b4 < D1 ∧ b11 < D1 ∧ bx < D1 ∧ rw0 < D1 ∧ w.heap.size ≤ D1 := by
        have h1 := HS4.out.up.size
        omega
      have HS1 := Lib.hid (HS4.out.non hU1)
      have HXX1 := Lib.hid (hU1.cell_eq id HXX.out)
      have HX11' := Lib.hid (Blk.upd hU1 HX11.out id)
      clear hD1 hrec HS4 HXX HX11 hU1
      refine Calls.mono (R := fun e W' => e = .returned (.tuple #[]) ∧ ((∃ b2 D, LoopAt (rec .ready none) D1 W' ∧ SK w D1 b rr b3 b4 b11 bx (D1 + 1) r (.slice A5 (upto r.qs 8).length c5) rw0 b2 D 8 W') ∨ (∃ _ : Nat, ∃ _ : Nat, False)))
        (allp_run (b := b) (l := D1 + 1) (bx := bx) (s := r.qs) W1 (fun b2 D t W' => LoopAt (rec .ready none) D1 W' ∧ SK w D1 b rr b3 b4 b11 bx (D1 + 1) r (.slice A5 (upto r.qs 8).length c5) rw0 b2 D t W') (fun _ _ _ => False) ?h0 ?hbx ?hup ?hupx ?hskip ?hY) ?hend
      case h0 =>
        intro b2 D W' U k1 k2 k3 k4
        refine ⟨hL.upd U id id, HS1.out.non U, U.cell_eq id HXX1.out, k4, ⟨_, b11, Blk.upd U HX11'.out id, IRow.nil _ (by omega) (by have := HX11'.out.lt; have := U.size; omega), .inl rfl, fun h => absurd rfl h⟩, by omega⟩
      case hbx => exact fun _ _ _ _ h => ⟨h.2.xx, h.2.x2, h.2.sp.q⟩
      case hup =>
        intro b2 D t W' W'' h U
        have hc := h.2.con
        exact ⟨h.1.upd U (by omega) (by omega), h.2.upd U (fun i hi => by omega)⟩
      case hupx => exact fun _ _ _ _ h => h.elim
      case hskip => exact fun _ _ _ _ _ hs h => ⟨h.1, h.2.pass hs⟩
      case hY =>
        rintro b2 D t W' ht hst ⟨hlp, hk⟩
        have hc := hk.con
        have HK := Lib.hid hk
        have HLP := Lib.hid hlp
        obtain ⟨N, hN⟩ : ∃ N, r.n t = N := ⟨_, rfl⟩
        have hN0 : N ≠ 0 := by
          rintro rfl
          have : (if r.n t = 0 then (0 : Int) else if r.aw t then 2 else 1) = 1 := hst
          rw [if_pos hN] at this
          cases this
        have hak : r.qs.ak t = AK.of N := by
          show (if r.n t = 0 then AK.no else AK.of (r.n t)) = _
          rw [hN, if_neg hN0]
        have HN := Lib.hid hN
        have HST := Lib.hid hst
        rw [hak]
        clear hk hlp hN hN0 hak hL hst
        refine yield_at2 HREC.out HLP.out rfl ?_
        gi_wp2_with (refine wpListIn_store_row rfl 55 _ _ rfl W'.heap.size (AK.of N).enc rfl rfl 55 AK.no.enc (heap_alloc_new W' _) (by kernel_rfl) rfl (AK.enc_one _) ?_; rw [World.setRow_alloc_new])
        obtain ⟨b13, hb13⟩ : ∃ x, x = W'.heap.size := ⟨_, rfl⟩
        obtain ⟨Wa, hWa⟩ : ∃ x, x = W'.alloc (.cells (AK.of N).enc 55) := ⟨_, rfl⟩
        have hua : Upd Non W' Wa := by rw [hWa]; ((with_reducible repeat' first | exact Upd.refl _ _ | apply Upd.drew | apply Upd.drewN | apply Upd.alloc | refine Upd.setCell ?_ ?_) <;> first | (intro _ _ h; exact h) | (intro _ _ h; exact h.elim) | (intro i h1 h2; exfalso; (try simp only at h2); omega) | (left; rfl) | (right; dsimp only; omega) | (right; omega))
        have hX : Blk Wa b13 (AK.of N).enc 55 := by rw [hWa]; exact Blk.newAt hb13
        have h13 : D + 2 ≤ b13 := by omega
        rw [← hb13, ← hWa]
        clear hb13 hWa
        refine ⟨HLP.out.upd hua id id, fun W2 hU2 hL2 => ?_⟩
        have hK2 := (HK.out.upd hua (fun _ h => h.elim)).upd hU2 (fun i h => .inr (.inl h))
        have HK2 := Lib.hid hK2
        have HL2 := Lib.hid hL2
        have HX2 := Lib.hid (Blk.upd hU2 hX (by omega))
        have HUB := Lib.hid (show Upd (fun i => i ≠ D ∧ i ≠ D + 1) W' W2 from Upd.trans hua hU2 (fun _ h => h.elim) (fun i hi h => by omega))
        clear hua hX hU2 hL2 HK HLP hK2
        gi_wp2
        have y3 : ∀ G : Grown W2, G.W.cell? ⟨b3, 0, none⟩ = some (.pointer (some ⟨rr, 0, none⟩)) := fun G => G.cell (HK2.out.sp.x3.cell 0 rfl)
        have yn : ∀ G : Grown W2, G.W.cell? ⟨rr, t * 2, none⟩ = some (.int .i64 N) := fun G => G.cell (by rw [← HN.out]; exact HK2.out.sp.r.blk.cell _ (r.enc_cell t ht).1)
        have k1 : ¬ (t : Int) < 0 := by omega
        have k2 : ¬ (7 : Int) < t := by omega
        have k3 : (t : Int) < 8 := by omega
        have k4 : (0 : Int) ≤ t := by omega
        have k5 : decide ((7 : Int) < (t : Int)) = false := decide_eq_false k2
        have k6 : decide ((t : Int) < 0) = false := decide_eq_false k1
        have k7 : decide (7 < t) = false := decide_eq_false (by omega)
        refine round_region_grow (by kernel_rfl) (by kernel_rfl) (by kernel_rfl) (fun ⟨_, _, h⟩ => h) ?_
        repeat (first
          | (go_big_quiet_want; refine quiet_row 55 _ rfl b13 rfl (AK.of N).enc 55 _ HX2.out Try.underlying55 rfl (by kernel_rfl) ?_; go_simp; go_big_quiet_on)
          | (go_big_quiet_want; refine quiet_eq .neq 55 55 _ _ rfl (AK.of N).enc (AK.of N).enc (.bool false) rfl rfl Try.eqGuardType55 (fun w => ask_ne (AK.of N) w) ?_; go_simp; go_big_quiet_on)
          | go_big_quiet_step ((first | (go_at_call 32; exact Grown.call (ask_spec N _)))))
        refine wpQuiet_nil ?_
        rintro ⟨W3, hU3⟩
        show Exit.then _ _ _ _ W3
        have HK3 := Lib.hid (HK2.out.upd hU3 (fun _ h => h.elim))
        have HL3 := Lib.hid (HL2.out.upd hU3 id id)
        have HUC := Lib.hid (show Upd (fun i => i ≠ D ∧ i ≠ D + 1) W' W3 from Upd.trans HUB.out hU3 (fun _ h => h) (fun _ _ h => h.elim))
        have hcon3 := HK3.out.con
        obtain ⟨v, r2, q1, q2, q3, q4⟩ := HK3.out.row
        have x11 := q1.cell 0 rfl
        have f11 := q1.frozen 0
        obtain ⟨A2, c2, rfl⟩ := q2.slice
        have HQ := Lib.hid (And.intro q1 (And.intro q2 (And.intro q3 q4)))
        have hlen := upto_le r.qs t
        obtain ⟨n2, hn2⟩ : ∃ x, (upto r.qs t).length = x := ⟨_, rfl⟩
        have HN2 := Lib.hid hn2
        rw [hn2] at x11 hlen
        clear y3 yn hU3 HK2 HL2 HX2 HUB q1 q2 q3 q4 hn2
        gi_wp2_with (gi_at_builtin; refine wpListIn_iappendN rfl _ _ 31 rfl Try.underlying31 Try.info3' rfl (by have h := IRow.non (w' := W3.alloc (.cells #[.int .i64 t] 3)) (by ((with_reducible repeat' first | exact Upd.refl _ _ | apply Upd.drew | apply Upd.drewN | apply Upd.alloc | refine Upd.setCell ?_ ?_) <;> first | (intro _ _ h; exact h) | (intro _ _ h; exact h.elim) | (intro i h1 h2; exfalso; (try simp only at h2); omega) | (left; rfl) | (right; dsimp only; omega) | (right; omega))) HQ.out.2.1; rw [HN2.out] at h; exact h) W3.heap.size t rfl (Blk.new _ _ _) (by rw [HN2.out]; omega) (by rw [World.size_alloc]; omega) ?_; intro v7 w5 r7 hr hi U4; obtain ⟨A', c', rfl⟩ := hi.slice; rw [List.length_append, List.length_singleton] at hi; have hx8 := (Blk.upd U4 (Blk.alloc HQ.out.1) (by rintro ⟨e, hv⟩; have := HQ.out.2.2.2 (by rw [HN2.out]; exact hv); omega)).cell 0 rfl; have hf8 := (Blk.upd U4 (Blk.alloc HQ.out.1) (by rintro ⟨e, hv⟩; have := HQ.out.2.2.2 (by rw [HN2.out]; exact hv); omega)).frozen 0)
        have hnil : ∀ i, (i = r2 ∧ Value.slice A2 n2 c2 ≠ Value.slice none 0 0) → D + 2 ≤ i := by
          rintro i ⟨rfl, hv⟩
          exact HQ.out.2.2.2 (by rw [HN2.out]; exact hv)
        have hr7 : D + 2 ≤ r7 := by
          rcases hr with hr | hr
          · exact hr.1 ▸ hnil _ ⟨rfl, hr.2⟩
          · rw [World.size_alloc] at hr; omega
        have UU : Upd (fun i => i = b11 ∨ D + 2 ≤ i) W3 (w5.setCell ⟨b11, 0, none⟩ (.slice A' ((upto r.qs t).length + 1) c')) :=
          (Upd.call U4 (show Upd (fun i => i = b11 ∨ D + 2 ≤ i) W3 (W3.alloc (.cells #[.int .i64 t] 3)) by ((with_reducible repeat' first | exact Upd.refl _ _ | apply Upd.drew | apply Upd.drewN | apply Upd.alloc | refine Upd.setCell ?_ ?_) <;> first | (intro _ _ h; exact h) | (intro _ _ h; exact h.elim) | (intro i h1 h2; exfalso; (try simp only at h2); omega) | (left; rfl) | (right; dsimp only; omega) | (right; omega))) (fun i hi e => .inr (hnil i e))).setCell (.inl (.inl rfl))
        have hB11 := Blk.set (i := 0) (v := .slice A' ((upto r.qs t).length + 1) c') (Blk.upd U4 (Blk.alloc HQ.out.1) (fun e => by have := hnil _ e; omega))
        have hrow : IRow (w5.setCell ⟨b11, 0, none⟩ (.slice A' ((upto r.qs t).length + 1) c')) w.heap.size (.slice A' ((upto r.qs t).length + 1) c') (upto r.qs (t + 1)) r7 := by
          rw [upto_yes HST.out]
          exact hi.upd (S := fun i => i = b11) (by ((with_reducible repeat' first | exact Upd.refl _ _ | apply Upd.drew | apply Upd.drewN | apply Upd.alloc | refine Upd.setCell ?_ ?_) <;> first | (intro _ _ h; exact h) | (intro _ _ h; exact h.elim) | (intro i h1 h2; exfalso; (try simp only at h2); omega) | (left; rfl) | (right; dsimp only; omega) | (right; omega))) (by omega)
        have hSK : SK w D1 b rr b3 b4 b11 bx (D1 + 1) r (.slice A5 (upto r.qs 8).length c5) rw0 b2 D (t + 1) (w5.setCell ⟨b11, 0, none⟩ (.slice A' ((upto r.qs t).length + 1) c')) :=
          ⟨HK3.out.sp.upd UU (by omega) (by omega) (by omega) (by omega) (by omega) (fun i hi => by omega), UU.cell_eq (by dsimp only; omega) HK3.out.xx, UU.cell_eq (by dsimp only; omega) HK3.out.x2,
            ⟨_, r7, Blk.eq hB11 rfl, hrow, .inr hr7, fun _ => hr7⟩, by have := UU.size; omega⟩
        exact ⟨HL3.out.upd UU (by omega) (by omega), fun W4 hU4 hL4 => ⟨Upd.trans (Upd.trans HUC.out UU (fun _ h => h) (fun i hi h => by omega)) hU4 (fun _ h => h) (fun i hi h => by omega), rfl, hL4, hSK.upd hU4 (fun i h => .inr (.inl h))⟩⟩
      case hend =>
        rintro e W' ⟨rfl, ⟨b2, D, hl, hk⟩ | ⟨_, _, h⟩⟩
        · refine ⟨⟨_, rfl⟩, .inl ⟨hl, fun W4 hU4 hd4 => ?_⟩⟩
          have hk4 := hk.upd hU4 (fun i h => .inr (.inl h))
          have hcon4 := hk4.con
          obtain ⟨v, r2, q1, q2, q3, q4⟩ := hk4.row
          obtain ⟨A2, c2, rfl⟩ := q2.slice
          have x11 := q1.cell 0 rfl
          have HK := Lib.hid (And.intro hd4 (And.intro hk4.sp (And.intro q2 hk4.sp.row)))
          have h4l := hk4.sp.x4.lt
          clear hk hl hk4 q1 q2 q3 q4 hd4 hL hU4
          go_wp2_with fail
          refine (sameInts_spec (xs := upto r.qs 8) A2 A5 c2 c5 (Nat.le_trans (upto_le _ _) (by decide)) W4 (IRow.at HK.out.2.2.1) (IRow.at HK.out.2.2.2)).mono ?_
          rintro e w8 ⟨rfl, kk, rfl⟩
          have hne4 : b4 ≠ D1 := by omega
          have f4 := (Blk.drewN (n := kk) HK.out.2.1.x4).frozen 0
          have x4 := (Blk.drewN (n := kk) HK.out.2.1.x4).cell 0 rfl
          go_wp2_with fail
          refine postM_ret1 (v := .bool true) (D := D1) ?_ rfl ?_ ?_
          · intro w' hU'
            have hc : w'.cell? ⟨b4, 0, none⟩ = some (.bool true) := (Blk.upd hU' (Blk.set (Blk.drewN HK.out.2.1.x4)) hne4).cell 0 rfl
            simp [results, Try.results60, go_sem, hc]
          · exact (show Upd (fun i => i = b4) W4 _ by ((with_reducible repeat' first | exact Upd.refl _ _ | apply Upd.drew | apply Upd.drewN | apply Upd.alloc | refine Upd.setCell ?_ ?_) <;> first | (intro _ _ h; exact h) | (intro _ _ h; exact h.elim) | (intro i h1 h2; exfalso; (try simp only at h2); omega) | (left; rfl) | (right; dsimp only; omega) | (right; omega))).block D1 (Array.getElem?_eq_some_iff.1 HK.out.1).1 (fun e => hne4 e.symm) |>.trans HK.out.1
          · intro w' hU'
            have h := HK.out.2.1.up
            exact ⟨rfl, by ((with_reducible repeat' first | exact Upd.refl _ _ | apply Upd.drew | apply Upd.drewN | apply Upd.alloc | refine Upd.setCell ?_ ?_ | refine Upd.call hU' ?_ ?_ | refine Upd.call h ?_ ?_) <;> first | (intro _ _ h; exact h) | (intro _ _ h; exact h.elim) | (intro i h1 h2; exfalso; (try simp only at h2); omega) | (left; rfl) | (right; dsimp only; omega) | (right; omega))⟩
        · exact h.elim
    by_cases hk0 : k = 0
    · subst hk0
      have HV := Lib.hid (show r.qs.lookA (-1) = AK.no ∧ r.qs.lookO (-1) = false ∧ r.qs.stE (-1) = 0 from ⟨rfl, rfl, rfl⟩)
      rw [show ((0 : Nat) : Int) - 1 = -1 from rfl]
      go_wp2_with fail
      refine (look_is AK.no false HV.out.1 HV.out.2.1 _ HS.out.q).mono ?_
      rintro e w2 ⟨rfl, U2⟩
      have HS2 := Lib.hid (HS.out.non U2)
      clear U2 HS
      go_upto_region 6 with (refine wpList_store_row rfl 55 _ _ rfl w2.heap.size (AK.enc AK.no) rfl rfl 55 AK.no.enc (heap_alloc_new w2 _) (by kernel_rfl) rfl (AK.enc_one _) ?_; rw [World.setRow_alloc_new])
      obtain ⟨w3, hw3⟩ : ∃ x, x = w2.alloc (.cells (AK.enc AK.no) 55) := ⟨_, rfl⟩
      obtain ⟨b7, hb7⟩ : ∃ x, x = w2.heap.size := ⟨_, rfl⟩
      have HX7 := Lib.hid (show Blk w3 b7 (AK.enc AK.no) 55 by rw [hw3]; exact Blk.newAt hb7)
      have HS3 := Lib.hid (HS2.out.non (show Upd Non w2 w3 by rw [hw3]; ((with_reducible repeat' first | exact Upd.refl _ _ | apply Upd.drew | apply Upd.drewN | apply Upd.alloc | refine Upd.setCell ?_ ?_) <;> first | (intro _ _ h; exact h) | (intro _ _ h; exact h.elim) | (intro i h1 h2; exfalso; (try simp only at h2); omega) | (left; rfl) | (right; dsimp only; omega) | (right; omega))))
      rw [← hw3, ← hb7]
      clear hw3 hb7 HS2
      have y3 := HS3.out.x3.cell 0 rfl
      go_wp2_with (refine wpList_store_row rfl 55 _ _ rfl w3.heap.size AK.no.enc rfl rfl 55 AK.no.enc (heap_alloc_new w3 _) (by kernel_rfl) rfl (AK.enc_one _) ?_; rw [World.setRow_alloc_new])
      obtain ⟨w4, hw4⟩ : ∃ x, x = w3.alloc (.cells AK.no.enc 55) := ⟨_, rfl⟩
      obtain ⟨b10, hb10⟩ : ∃ x, x = w3.heap.size := ⟨_, rfl⟩
      have HX10 := Lib.hid (show Blk w4 b10 AK.no.enc 55 by rw [hw4]; exact Blk.newAt hb10)
      have HX74 := Lib.hid (show Blk w4 b7 (AK.enc AK.no) 55 by rw [hw4]; exact Blk.alloc HX7.out)
      have HS4 := Lib.hid (HS3.out.non (show Upd Non w3 w4 by rw [hw4]; ((with_reducible repeat' first | exact Upd.refl _ _ | apply Upd.drew | apply Upd.drewN | apply Upd.alloc | refine Upd.setCell ?_ ?_) <;> first | (intro _ _ h; exact h) | (intro _ _ h; exact h.elim) | (intro i h1 h2; exfalso; (try simp only at h2); omega) | (left; rfl) | (right; dsimp only; omega) | (right; omega))))
      rw [← hw4, ← hb10]
      clear hw4 hb10 HX7 HS3 y3
      have y3 : ∀ G : Grown w4, G.W.cell? ⟨b3, 0, none⟩ = some (.pointer (some ⟨rr, 0, none⟩)) := fun G => G.cell (HS4.out.x3.cell 0 rfl)
      refine wp_region_grow (by kernel_rfl) (by kernel_rfl) ?_
      dsimp only [Act.put]
      repeat (first
        | (go_big_quiet_want; refine quiet_row 55 _ rfl b7 rfl (AK.enc AK.no) 55 _ HX74.out Try.underlying55 rfl (by kernel_rfl) ?_; go_simp; go_big_quiet_on)
        | (go_big_quiet_want; refine quiet_row 55 _ rfl b10 rfl AK.no.enc 55 _ HX10.out Try.underlying55 rfl (by kernel_rfl) ?_; go_simp; go_big_quiet_on)
        | (go_big_quiet_want; refine quiet_eq .neq 55 55 _ _ rfl (AK.enc AK.no) (AK.enc AK.no) (.bool false) rfl rfl Try.eqGuardType55 (fun w => ask_ne AK.no w) ?_; go_simp; go_big_quiet_on)
        | go_big_quiet_step ((first | (go_at_call 34; exact Grown.call_same (stE_is 0 HV.out.2.2 _ (QBlk.upd (Grown.h _) HS4.out.q id))) | (go_at_call 90; exact Grown.call_same (rst_is 0 HV.out.2.2 _ (RBlk.upd (Grown.h _) HS4.out.r id))) | (go_at_call 32; exact Grown.call (ask_spec 0 _)))))
      refine wpQuiet_nil ?_
      rintro ⟨w5, hU5⟩
      show Exit.then _ _ _ _ w5
      have HS5 := Lib.hid (HS4.out.non hU5)
      clear y3 hU5 HS4 HX74 HX10
      have y3 := HS5.out.x3.cell 0 rfl
      go_wp2_with fail
      refine (rst_is 0 HV.out.2.2 _ HS5.out.r).mono ?_
      rintro e w6 ⟨rfl, rfl⟩
      clear y3
      go_wp2_with fail
      go_roundw
      case rel => exact ⟨1, rw0, by omega, by go_num, HS5.out⟩
      case measure => simp [intOf]
    by_cases hk9 : k = 9
    · subst hk9
      have HV := Lib.hid (show r.qs.lookA 8 = AK.no ∧ r.qs.lookO 8 = false ∧ r.qs.stE 8 = 0 from ⟨rfl, rfl, rfl⟩)
      rw [show ((9 : Nat) : Int) - 1 = 8 from rfl]
      go_wp2_with fail
      refine (look_is AK.no false HV.out.1 HV.out.2.1 _ HS.out.q).mono ?_
      rintro e w2 ⟨rfl, U2⟩
      have HS2 := Lib.hid (HS.out.non U2)
      clear U2 HS
      go_upto_region 6 with (refine wpList_store_row rfl 55 _ _ rfl w2.heap.size (AK.enc AK.no) rfl rfl 55 AK.no.enc (heap_alloc_new w2 _) (by kernel_rfl) rfl (AK.enc_one _) ?_; rw [World.setRow_alloc_new])
      obtain ⟨w3, hw3⟩ : ∃ x, x = w2.alloc (.cells (AK.enc AK.no) 55) := ⟨_, rfl⟩
      obtain ⟨b7, hb7⟩ : ∃ x, x = w2.heap.size := ⟨_, rfl⟩
      have HX7 := Lib.hid (show Blk w3 b7 (AK.enc AK.no) 55 by rw [hw3]; exact Blk.newAt hb7)
      have HS3 := Lib.hid (HS2.out.non (show Upd Non w2 w3 by rw [hw3]; ((with_reducible repeat' first | exact Upd.refl _ _ | apply Upd.drew | apply Upd.drewN | apply Upd.alloc | refine Upd.setCell ?_ ?_) <;> first | (intro _ _ h; exact h) | (intro _ _ h; exact h.elim) | (intro i h1 h2; exfalso; (try simp only at h2); omega) | (left; rfl) | (right; dsimp only; omega) | (right; omega))))
      rw [← hw3, ← hb7]
      clear hw3 hb7 HS2
      have y3 := HS3.out.x3.cell 0 rfl
      go_wp2_with (refine wpList_store_row rfl 55 _ _ rfl w3.heap.size AK.no.enc rfl rfl 55 AK.no.enc (heap_alloc_new w3 _) (by kernel_rfl) rfl (AK.enc_one _) ?_; rw [World.setRow_alloc_new])
      obtain ⟨w4, hw4⟩ : ∃ x, x = w3.alloc (.cells AK.no.enc 55) := ⟨_, rfl⟩
      obtain ⟨b10, hb10⟩ : ∃ x, x = w3.heap.size := ⟨_, rfl⟩
      have HX10 := Lib.hid (show Blk w4 b10 AK.no.enc 55 by rw [hw4]; exact Blk.newAt hb10)
      have HX74 := Lib.hid (show Blk w4 b7 (AK.enc AK.no) 55 by rw [hw4]; exact Blk.alloc HX7.out)
      have HS4 := Lib.hid (HS3.out.non (show Upd Non w3 w4 by rw [hw4]; ((with_reducible repeat' first | exact Upd.refl _ _ | apply Upd.drew | apply Upd.drewN | apply Upd.alloc | refine Upd.setCell ?_ ?_) <;> first | (intro _ _ h; exact h) | (intro _ _ h; exact h.elim) | (intro i h1 h2; exfalso; (try simp only at h2); omega) | (left; rfl) | (right; dsimp only; omega) | (right; omega))))
      rw [← hw4, ← hb10]
      clear hw4 hb10 HX7 HS3 y3
      have y3 : ∀ G : Grown w4, G.W.cell? ⟨b3, 0, none⟩ = some (.pointer (some ⟨rr, 0, none⟩)) := fun G => G.cell (HS4.out.x3.cell 0 rfl)
      refine wp_region_grow (by kernel_rfl) (by kernel_rfl) ?_
      dsimp only [Act.put]
      repeat (first
        | (go_big_quiet_want; refine quiet_row 55 _ rfl b7 rfl (AK.enc AK.no) 55 _ HX74.out Try.underlying55 rfl (by kernel_rfl) ?_; go_simp; go_big_quiet_on)
        | (go_big_quiet_want; refine quiet_row 55 _ rfl b10 rfl AK.no.enc 55 _ HX10.out Try.underlying55 rfl (by kernel_rfl) ?_; go_simp; go_big_quiet_on)
        | (go_big_quiet_want; refine quiet_eq .neq 55 55 _ _ rfl (AK.enc AK.no) (AK.enc AK.no) (.bool false) rfl rfl Try.eqGuardType55 (fun w => ask_ne AK.no w) ?_; go_simp; go_big_quiet_on)
        | go_big_quiet_step ((first | (go_at_call 34; exact Grown.call_same (stE_is 0 HV.out.2.2 _ (QBlk.upd (Grown.h _) HS4.out.q id))) | (go_at_call 90; exact Grown.call_same (rst_is 0 HV.out.2.2 _ (RBlk.upd (Grown.h _) HS4.out.r id))) | (go_at_call 32; exact Grown.call (ask_spec 0 _)))))
      refine wpQuiet_nil ?_
      rintro ⟨w5, hU5⟩
      show Exit.then _ _ _ _ w5
      have HS5 := Lib.hid (HS4.out.non hU5)
      clear y3 hU5 HS4 HX74 HX10
      have y3 := HS5.out.x3.cell 0 rfl
      go_wp2_with fail
      refine (rst_is 0 HV.out.2.2 _ HS5.out.r).mono ?_
      rintro e w6 ⟨rfl, rfl⟩
      clear y3
      go_wp2_with fail
      go_roundw
      case rel => exact ⟨10, rw0, by omega, by go_num, HS5.out⟩
      case measure => simp [intOf]
    obtain ⟨m, rfl⟩ : ∃ m, k = m + 1 := ⟨k - 1, by omega⟩
    have hm : m < 8 := by omega
    rw [show ((m + 1 : Nat) : Int) - 1 = (m : Int) by omega]
    have h0 : (0 : Int) ≤ m := by omega
    have h8 : (m : Int) < 8 := by omega
    have h9 : (m : Int) < 9 := by omega
    have hbw : ¬ badW (m : Int) := by unfold badW; omega
    obtain ⟨N, hN⟩ : ∃ N, r.n m = N := ⟨_, rfl⟩
    have HN := Lib.hid hN
    have hst : r.qs.stE (m : Int) = if N = 0 then 0 else if r.aw m then 2 else 1 := by
      unfold QS.stE; rw [if_neg hbw, Int.toNat_natCast, ← hN]; rfl
    have hak : r.qs.ak m = if N = 0 then AK.no else AK.of N := by rw [← hN]; rfl
    have hq : r.qs.st m = r.qs.stE (m : Int) := by unfold QS.stE; rw [if_neg hbw, Int.toNat_natCast]
    have hmin : min (m + 1 - 1) 8 = m ∧ min (m + 1 + 1 - 1) 8 = m + 1 := by omega
    by_cases hn0 : N = 0
    · have hE : r.qs.stE (m : Int) = 0 := by rw [hst, if_pos hn0]
      have HV := Lib.hid (show r.qs.lookA m = AK.no ∧ r.qs.lookO m = false ∧ r.qs.stE m = 0 from ⟨by unfold QS.lookA; rw [if_pos hE], by unfold QS.lookO; rw [if_pos hE], hE⟩)
      have SEEN := Lib.hid (show seen r.qs (m + 1 + 1) = seen r.qs (m + 1) by unfold seen; rw [hmin.1, hmin.2]; exact upto_no (by rw [hq, hE]; decide))
      clear hN hst hak hq hE hbw hmin hk0 hk9 hk
      subst hn0
      go_wp2_with fail
      refine (look_is AK.no false HV.out.1 HV.out.2.1 _ HS.out.q).mono ?_
      rintro e w2 ⟨rfl, U2⟩
      have HS2 := Lib.hid (HS.out.non U2)
      clear U2 HS
      go_upto_region 6 with (refine wpList_store_row rfl 55 _ _ rfl w2.heap.size (AK.enc AK.no) rfl rfl 55 AK.no.enc (heap_alloc_new w2 _) (by kernel_rfl) rfl (AK.enc_one _) ?_; rw [World.setRow_alloc_new])
      obtain ⟨w3, hw3⟩ : ∃ x, x = w2.alloc (.cells (AK.enc AK.no) 55) := ⟨_, rfl⟩
      obtain ⟨b7, hb7⟩ : ∃ x, x = w2.heap.size := ⟨_, rfl⟩
      have HX7 := Lib.hid (show Blk w3 b7 (AK.enc AK.no) 55 by rw [hw3]; exact Blk.newAt hb7)
      have HS3 := Lib.hid (HS2.out.non (show Upd Non w2 w3 by rw [hw3]; ((with_reducible repeat' first | exact Upd.refl _ _ | apply Upd.drew | apply Upd.drewN | apply Upd.alloc | refine Upd.setCell ?_ ?_) <;> first | (intro _ _ h; exact h) | (intro _ _ h; exact h.elim) | (intro i h1 h2; exfalso; (try simp only at h2); omega) | (left; rfl) | (right; dsimp only; omega) | (right; omega))))
      rw [← hw3, ← hb7]
      clear hw3 hb7 HS2
      have y3 := HS3.out.x3.cell 0 rfl
      have yn := HS3.out.r.blk.cell _ (r.enc_cell m hm).1
      rw [HN.out] at yn
      go_wp2_with (refine wpList_store_row rfl 55 _ _ rfl w3.heap.size AK.no.enc rfl rfl 55 AK.no.enc (heap_alloc_new w3 _) (by kernel_rfl) rfl (AK.enc_one _) ?_; rw [World.setRow_alloc_new])
      obtain ⟨w4, hw4⟩ : ∃ x, x = w3.alloc (.cells AK.no.enc 55) := ⟨_, rfl⟩
      obtain ⟨b10, hb10⟩ : ∃ x, x = w3.heap.size := ⟨_, rfl⟩
      have HX10 := Lib.hid (show Blk w4 b10 AK.no.enc 55 by rw [hw4]; exact Blk.newAt hb10)
      have HX74 := Lib.hid (show Blk w4 b7 (AK.enc AK.no) 55 by rw [hw4]; exact Blk.alloc HX7.out)
      have HS4 := Lib.hid (HS3.out.non (show Upd Non w3 w4 by rw [hw4]; ((with_reducible repeat' first | exact Upd.refl _ _ | apply Upd.drew | apply Upd.drewN | apply Upd.alloc | refine Upd.setCell ?_ ?_) <;> first | (intro _ _ h; exact h) | (intro _ _ h; exact h.elim) | (intro i h1 h2; exfalso; (try simp only at h2); omega) | (left; rfl) | (right; dsimp only; omega) | (right; omega))))
      rw [← hw4, ← hb10]
      clear hw4 hb10 HX7 HS3 y3 yn
      have y3 : ∀ G : Grown w4, G.W.cell? ⟨b3, 0, none⟩ = some (.pointer (some ⟨rr, 0, none⟩)) := fun G => G.cell (HS4.out.x3.cell 0 rfl)
      refine wp_region_grow (by kernel_rfl) (by kernel_rfl) ?_
      dsimp only [Act.put]
      repeat (first
        | (go_big_quiet_want; refine quiet_row 55 _ rfl b7 rfl (AK.enc AK.no) 55 _ HX74.out Try.underlying55 rfl (by kernel_rfl) ?_; go_simp; go_big_quiet_on)
        | (go_big_quiet_want; refine quiet_row 55 _ rfl b10 rfl AK.no.enc 55 _ HX10.out Try.underlying55 rfl (by kernel_rfl) ?_; go_simp; go_big_quiet_on)
        | (go_big_quiet_want; refine quiet_eq .neq 55 55 _ _ rfl (AK.enc AK.no) (AK.enc AK.no) (.bool false) rfl rfl Try.eqGuardType55 (fun w => ask_ne AK.no w) ?_; go_simp; go_big_quiet_on)
        | go_big_quiet_step ((first | (go_at_call 34; exact Grown.call_same (stE_is 0 HV.out.2.2 _ (QBlk.upd (Grown.h _) HS4.out.q id))) | (go_at_call 90; exact Grown.call_same (rst_is 0 HV.out.2.2 _ (RBlk.upd (Grown.h _) HS4.out.r id))) | (go_at_call 32; exact Grown.call (ask_spec 0 _)))))
      refine wpQuiet_nil ?_
      rintro ⟨w5, hU5⟩
      show Exit.then _ _ _ _ w5
      have HS5 := Lib.hid (HS4.out.non hU5)
      clear y3 hU5 HS4 HX74 HX10
      have y3 := HS5.out.x3.cell 0 rfl
      go_wp2_with fail
      refine (rst_is 0 HV.out.2.2 _ HS5.out.r).mono ?_
      rintro e w6 ⟨rfl, rfl⟩
      clear y3
      go_wp2_with fail
      go_roundw
      case rel => exact ⟨m + 1 + 1, rw0, by omega, by rw [show ((m + 1 + 1 : Nat) : Int) - 1 = (m : Int) + 1 by omega], by rw [SEEN.out]; exact HS5.out⟩
      case measure => simp [intOf]; omega
    have hn1 : (0 : Int) < N := by omega
    have hn2 : decide ((0 : Int) < (N : Int)) = true := decide_eq_true hn1
    have hn3 : decide (0 < N) = true := decide_eq_true (by omega)
    have hn4 : 0 < N := by omega
    cases haw : r.aw m
    · have hE : r.qs.stE (m : Int) = 1 := by rw [hst, if_neg hn0, haw, if_neg (by decide)]
      have HV := Lib.hid (show r.qs.lookA m = AK.of N ∧ r.qs.lookO m = true ∧ r.qs.stE m = 1 from ⟨by unfold QS.lookA; rw [if_neg (by rw [hE]; decide), Int.toNat_natCast, hak, if_neg hn0], by unfold QS.lookO; rw [if_neg (by rw [hE]; decide)], hE⟩)
      have SEEN := Lib.hid (show seen r.qs (m + 1 + 1) = seen r.qs (m + 1) ++ [(m : Int)] by unfold seen; rw [hmin.1, hmin.2]; exact upto_yes (by rw [hq, hE]))
      clear hN hst hak hq hE hbw hmin hk0 hk9 hk hn0 haw
      go_wp2_with fail
      refine (look_is (AK.of N) true HV.out.1 HV.out.2.1 _ HS.out.q).mono ?_
      rintro e w2 ⟨rfl, U2⟩
      have HS2 := Lib.hid (HS.out.non U2)
      clear U2 HS
      go_upto_region 6 with (refine wpList_store_row rfl 55 _ _ rfl w2.heap.size (AK.enc (AK.of N)) rfl rfl 55 AK.no.enc (heap_alloc_new w2 _) (by kernel_rfl) rfl (AK.enc_one _) ?_; rw [World.setRow_alloc_new])
      obtain ⟨w3, hw3⟩ : ∃ x, x = w2.alloc (.cells (AK.enc (AK.of N)) 55) := ⟨_, rfl⟩
      obtain ⟨b7, hb7⟩ : ∃ x, x = w2.heap.size := ⟨_, rfl⟩
      have HX7 := Lib.hid (show Blk w3 b7 (AK.enc (AK.of N)) 55 by rw [hw3]; exact Blk.newAt hb7)
      have HS3 := Lib.hid (HS2.out.non (show Upd Non w2 w3 by rw [hw3]; ((with_reducible repeat' first | exact Upd.refl _ _ | apply Upd.drew | apply Upd.drewN | apply Upd.alloc | refine Upd.setCell ?_ ?_) <;> first | (intro _ _ h; exact h) | (intro _ _ h; exact h.elim) | (intro i h1 h2; exfalso; (try simp only at h2); omega) | (left; rfl) | (right; dsimp only; omega) | (right; omega))))
      rw [← hw3, ← hb7]
      clear hw3 hb7 HS2
      have y3 := HS3.out.x3.cell 0 rfl
      have yn := HS3.out.r.blk.cell _ (r.enc_cell m hm).1
      rw [HN.out] at yn
      go_wp2_with (refine wpList_store_row rfl 55 _ _ rfl w3.heap.size AK.no.enc rfl rfl 55 AK.no.enc (heap_alloc_new w3 _) (by kernel_rfl) rfl (AK.enc_one _) ?_; rw [World.setRow_alloc_new])
      obtain ⟨w4, hw4⟩ : ∃ x, x = w3.alloc (.cells AK.no.enc 55) := ⟨_, rfl⟩
      obtain ⟨b10, hb10⟩ : ∃ x, x = w3.heap.size := ⟨_, rfl⟩
      have HX10 := Lib.hid (show Blk w4 b10 AK.no.enc 55 by rw [hw4]; exact Blk.newAt hb10)
      have HX74 := Lib.hid (show Blk w4 b7 (AK.enc (AK.of N)) 55 by rw [hw4]; exact Blk.alloc HX7.out)
      have HS4 := Lib.hid (HS3.out.non (show Upd Non w3 w4 by rw [hw4]; ((with_reducible repeat' first | exact Upd.refl _ _ | apply Upd.drew | apply Upd.drewN | apply Upd.alloc | refine Upd.setCell ?_ ?_) <;> first | (intro _ _ h; exact h) | (intro _ _ h; exact h.elim) | (intro i h1 h2; exfalso; (try simp only at h2); omega) | (left; rfl) | (right; dsimp only; omega) | (right; omega))))
      rw [← hw4, ← hb10]
      clear hw4 hb10 HX7 HS3 y3 yn
      have y3 : ∀ G : Grown w4, G.W.cell? ⟨b3, 0, none⟩ = some (.pointer (some ⟨rr, 0, none⟩)) := fun G => G.cell (HS4.out.x3.cell 0 rfl)
      refine wp_region_grow (by kernel_rfl) (by kernel_rfl) ?_
      dsimp only [Act.put]
      repeat (first
        | (go_big_quiet_want; refine quiet_row 55 _ rfl b7 rfl (AK.enc (AK.of N)) 55 _ HX74.out Try.underlying55 rfl (by kernel_rfl) ?_; go_simp; go_big_quiet_on)
        | (go_big_quiet_want; refine quiet_row 55 _ rfl b10 rfl AK.no.enc 55 _ HX10.out Try.underlying55 rfl (by kernel_rfl) ?_; go_simp; go_big_quiet_on)
        | (go_big_quiet_want; refine quiet_eq .neq 55 55 _ _ rfl (AK.enc (AK.of N)) (AK.enc (AK.of N)) (.bool false) rfl rfl Try.eqGuardType55 (fun w => ask_ne (AK.of N) w) ?_; go_simp; go_big_quiet_on)
        | go_big_quiet_step ((first | (go_at_call 34; exact Grown.call_same (stE_is 1 HV.out.2.2 _ (QBlk.upd (Grown.h _) HS4.out.q id))) | (go_at_call 90; exact Grown.call_same (rst_is 1 HV.out.2.2 _ (RBlk.upd (Grown.h _) HS4.out.r id))) | (go_at_call 32; exact Grown.call (ask_spec N _)))))
      refine wpQuiet_nil ?_
      rintro ⟨w5, hU5⟩
      show Exit.then _ _ _ _ w5
      have HS5 := Lib.hid (HS4.out.non hU5)
      clear y3 hU5 HS4 HX74 HX10
      have y3 := HS5.out.x3.cell 0 rfl
      go_wp2_with fail
      refine (rst_is 1 HV.out.2.2 _ HS5.out.r).mono ?_
      rintro e w6 ⟨rfl, rfl⟩
      clear y3
      obtain ⟨A9, c9, rfl⟩ := HS5.out.row.slice
      go_wp2_with (at_builtin; refine wpList_iappendN rfl _ _ 31 rfl Try.underlying31 Try.info3' rfl (HS5.out.row.non (by ((with_reducible repeat' first | exact Upd.refl _ _ | apply Upd.drew | apply Upd.drewN | apply Upd.alloc | refine Upd.setCell ?_ ?_) <;> first | (intro _ _ h; exact h) | (intro _ _ h; exact h.elim) | (intro i h1 h2; exfalso; (try simp only at h2); omega) | (left; rfl) | (right; dsimp only; omega) | (right; omega)))) w5.heap.size m rfl (Blk.new _ _ _) (Nat.le_trans (seen_le _ _) (by decide)) (by have := HS5.out.up.size; rw [World.size_alloc]; omega) ?_; intro v7 w7 r7 hr hi U7)
      have HS6 := Lib.hid (HS5.out.non (show Upd Non w5 (w5.alloc (.cells #[.int .i64 m] 3)) by ((with_reducible repeat' first | exact Upd.refl _ _ | apply Upd.drew | apply Upd.drewN | apply Upd.alloc | refine Upd.setCell ?_ ?_) <;> first | (intro _ _ h; exact h) | (intro _ _ h; exact h.elim) | (intro i h1 h2; exfalso; (try simp only at h2); omega) | (left; rfl) | (right; dsimp only; omega) | (right; omega))))
      have HS7 := Lib.hid (HS6.out.push (by have h3 := HS6.out.x3.lt; have h4 := HS6.out.x4.lt; omega) U7 hr hi)
      clear hr hi U7 HS5 HS6
      go_wp2_with fail
      go_roundw
      case rel => exact ⟨m + 1 + 1, r7, by omega, by rw [show ((m + 1 + 1 : Nat) : Int) - 1 = (m : Int) + 1 by omega], by rw [SEEN.out]; exact HS7.out⟩
      case measure => simp [intOf]; omega
    · have hE : r.qs.stE (m : Int) = 2 := by rw [hst, if_neg hn0, haw, if_pos rfl]
      have HV := Lib.hid (show r.qs.lookA m = AK.of N ∧ r.qs.lookO m = true ∧ r.qs.stE m = 2 from ⟨by unfold QS.lookA; rw [if_neg (by rw [hE]; decide), Int.toNat_natCast, hak, if_neg hn0], by unfold QS.lookO; rw [if_neg (by rw [hE]; decide)], hE⟩)
      have SEEN := Lib.hid (show seen r.qs (m + 1 + 1) = seen r.qs (m + 1) by unfold seen; rw [hmin.1, hmin.2]; exact upto_no (by rw [hq, hE]; decide))
      clear hN hst hak hq hE hbw hmin hk0 hk9 hk hn0 haw
      go_wp2_with fail
      refine (look_is (AK.of N) true HV.out.1 HV.out.2.1 _ HS.out.q).mono ?_
      rintro e w2 ⟨rfl, U2⟩
      have HS2 := Lib.hid (HS.out.non U2)
      clear U2 HS
      go_upto_region 6 with (refine wpList_store_row rfl 55 _ _ rfl w2.heap.size (AK.enc (AK.of N)) rfl rfl 55 AK.no.enc (heap_alloc_new w2 _) (by kernel_rfl) rfl (AK.enc_one _) ?_; rw [World.setRow_alloc_new])
      obtain ⟨w3, hw3⟩ : ∃ x, x = w2.alloc (.cells (AK.enc (AK.of N)) 55) := ⟨_, rfl⟩
      obtain ⟨b7, hb7⟩ : ∃ x, x = w2.heap.size := ⟨_, rfl⟩
      have HX7 := Lib.hid (show Blk w3 b7 (AK.enc (AK.of N)) 55 by rw [hw3]; exact Blk.newAt hb7)
      have HS3 := Lib.hid (HS2.out.non (show Upd Non w2 w3 by rw [hw3]; ((with_reducible repeat' first | exact Upd.refl _ _ | apply Upd.drew | apply Upd.drewN | apply Upd.alloc | refine Upd.setCell ?_ ?_) <;> first | (intro _ _ h; exact h) | (intro _ _ h; exact h.elim) | (intro i h1 h2; exfalso; (try simp only at h2); omega) | (left; rfl) | (right; dsimp only; omega) | (right; omega))))
      rw [← hw3, ← hb7]
      clear hw3 hb7 HS2
      have y3 := HS3.out.x3.cell 0 rfl
      have yn := HS3.out.r.blk.cell _ (r.enc_cell m hm).1
      rw [HN.out] at yn
      go_wp2_with (refine wpList_store_row rfl 55 _ _ rfl w3.heap.size AK.no.enc rfl rfl 55 AK.no.enc (heap_alloc_new w3 _) (by kernel_rfl) rfl (AK.enc_one _) ?_; rw [World.setRow_alloc_new])
      obtain ⟨w4, hw4⟩ : ∃ x, x = w3.alloc (.cells AK.no.enc 55) := ⟨_, rfl⟩
      obtain ⟨b10, hb10⟩ : ∃ x, x = w3.heap.size := ⟨_, rfl⟩
      have HX10 := Lib.hid (show Blk w4 b10 AK.no.enc 55 by rw [hw4]; exact Blk.newAt hb10)
      have HX74 := Lib.hid (show Blk w4 b7 (AK.enc (AK.of N)) 55 by rw [hw4]; exact Blk.alloc HX7.out)
      have HS4 := Lib.hid (HS3.out.non (show Upd Non w3 w4 by rw [hw4]; ((with_reducible repeat' first | exact Upd.refl _ _ | apply Upd.drew | apply Upd.drewN | apply Upd.alloc | refine Upd.setCell ?_ ?_) <;> first | (intro _ _ h; exact h) | (intro _ _ h; exact h.elim) | (intro i h1 h2; exfalso; (try simp only at h2); omega) | (left; rfl) | (right; dsimp only; omega) | (right; omega))))
      rw [← hw4, ← hb10]
      clear hw4 hb10 HX7 HS3 y3 yn
      have y3 : ∀ G : Grown w4, G.W.cell? ⟨b3, 0, none⟩ = some (.pointer (some ⟨rr, 0, none⟩)) := fun G => G.cell (HS4.out.x3.cell 0 rfl)
      refine wp_region_grow (by kernel_rfl) (by kernel_rfl) ?_
      dsimp only [Act.put]
      repeat (first
        | (go_big_quiet_want; refine quiet_row 55 _ rfl b7 rfl (AK.enc (AK.of N)) 55 _ HX74.out Try.underlying55 rfl (by kernel_rfl) ?_; go_simp; go_big_quiet_on)
        | (go_big_quiet_want; refine quiet_row 55 _ rfl b10 rfl AK.no.enc 55 _ HX10.out Try.underlying55 rfl (by kernel_rfl) ?_; go_simp; go_big_quiet_on)
        | (go_big_quiet_want; refine quiet_eq .neq 55 55 _ _ rfl (AK.enc (AK.of N)) (AK.enc (AK.of N)) (.bool false) rfl rfl Try.eqGuardType55 (fun w => ask_ne (AK.of N) w) ?_; go_simp; go_big_quiet_on)
        | go_big_quiet_step ((first | (go_at_call 34; exact Grown.call_same (stE_is 2 HV.out.2.2 _ (QBlk.upd (Grown.h _) HS4.out.q id))) | (go_at_call 90; exact Grown.call_same (rst_is 2 HV.out.2.2 _ (RBlk.upd (Grown.h _) HS4.out.r id))) | (go_at_call 32; exact Grown.call (ask_spec N _)))))
      refine wpQuiet_nil ?_
      rintro ⟨w5, hU5⟩
      show Exit.then _ _ _ _ w5
      have HS5 := Lib.hid (HS4.out.non hU5)
      clear y3 hU5 HS4 HX74 HX10
      have y3 := HS5.out.x3.cell 0 rfl
      go_wp2_with fail
      refine (rst_is 2 HV.out.2.2 _ HS5.out.r).mono ?_
      rintro e w6 ⟨rfl, rfl⟩
      clear y3
      go_wp2_with fail
      go_roundw
      case rel => exact ⟨m + 1 + 1, rw0, by omega, by rw [show ((m + 1 + 1 : Nat) : Int) - 1 = (m : Int) + 1 by omega], by rw [SEEN.out]; exact HS5.out⟩
      case measure => simp [intOf]; omega
end Go.Proofs.Ytmblplhehbdocaa
