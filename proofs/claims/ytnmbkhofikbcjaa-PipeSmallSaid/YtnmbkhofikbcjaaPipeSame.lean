/- The law's comparison of a pipe with the document's. Conditions: the document's is what the ring has. -/
import Derived.Test.YtnmbkhofikbcjaaPipeTick
namespace Go.Proofs.Ytnmbkhofikbcjaa
open Go.RowKit Go.Joins

/-- What is held over the comparison's calls: the pipe, the document's, the slice that All gave. -/
def HC (w w' : World) (b br base : Nat) (s : PS) (v v1 : Value) : Prop :=
  Blk w' b s.enc 96 ∧ RS w' br base s v ∧ w'.ownsRow w.heap.size 33 3 v1 s.ways.length (dues (s.upto s.lat)) ∧ Upd Non w w'
def SC (w w' : World) (b br base : Nat) (s : PS) (v v1 : Value) : Prop := w'.cell? ⟨br, 3, none⟩ = some v ∧ Hid (HC w w' b br base s v v1)
section
variable {w x y : World} {b br base : Nat} {s : PS} {v v1 : Value}
theorem SC_of (h : HC w x b br base s v v1) : SC w x b br base s v v1 := ⟨h.2.1.blk.cell 3 rfl, Lib.hid h⟩
theorem SC_upd (u : Upd Non x y) (h : SC w x b br base s v v1) : SC w y b br base s v v1 :=
  SC_of ⟨Blk.upd u h.2.out.1 id, RP.upd u h.2.out.2.1 id fun _ _ => id, own_upd u h.2.out.2.2.1 fun _ _ => id, Upd.call u h.2.out.2.2.2 fun _ _ h => h⟩
theorem SC_drew (h : SC w x b br base s v v1) : SC w x.drew b br base s v v1 := SC_upd (Upd.refl Non x).drew h
theorem SC_drewN {n : Nat} (h : SC w x b br base s v v1) : SC w (x.drewN n) b br base s v v1 := SC_upd (Upd.refl Non x).drewN h
theorem len_held (hs : s.ok) (h : x.cell? ⟨br, 3, none⟩ = some v ∧ Hid (HC w x b br base s v v1)) :
    Calls Try.prog 29 #[.pointer (some ⟨b, 0, none⟩)] x fun e w' => e = .returned (.int .i64 s.ways.length) ∧ Upd Non x w' := by
  rw [← PS.ways_length]; exact len_spec s hs b x h.2.out.1
theorem idle_held (hs : s.ok) (h : x.cell? ⟨br, 3, none⟩ = some v ∧ Hid (HC w x b br base s v v1)) :
    Calls Try.prog 30 #[.pointer (some ⟨b, 0, none⟩)] x fun e w' => e = .returned (.int .i64 s.idle) ∧ Upd Non x w' :=
  (idle_spec s hs b x h.2.out.1).mono fun _ _ ⟨h1, _, h2⟩ => ⟨h1, h2 ▸ (Upd.refl Non x).drewN⟩
theorem refIdle_held (h : x.cell? ⟨br, 3, none⟩ = some v ∧ Hid (HC w x b br base s v v1)) :
    Calls Try.prog 56 #[.pointer (some ⟨br, 0, none⟩)] x fun e w' => e = .returned (.int .i64 s.idle) ∧ Upd Non x w' := by
  rw [PS.idle_ways]
  exact (refIdle_spec br base s.lat s.began _ s.ways v x h.2.out.2.1).mono fun _ _ ⟨h1, h2⟩ => ⟨h1, h2 ▸ Upd.refl _ _⟩
end

set_option maxRecDepth 100000 in
set_option maxHeartbeats 8000000 in
theorem same_spec (s : PS) (hs : s.ok) (b br base : Nat) (v : Value) (w : World) (hb : Blk w b s.enc 96) (h : RS w br base s v) :
    Calls Try.prog 35 #[.pointer (some ⟨b, 0, none⟩), .pointer (some ⟨br, 0, none⟩)] w fun e w' => e = .returned (.bool true) ∧ Upd Non w w' := by
  have HB := Lib.hid hb
  have H := Lib.hid h
  have HS := Lib.hid hs
  have hlt := h.blk.lt
  obtain ⟨A, c, hv⟩ := own_slice h.row
  subst hv
  clear hb h hs
  go_enter Try.func35, Try.ntmps35
  go_wp2_with (go_at_call 55; refine (all_spec s HS.out b _ HB.out).mono ?_; rintro e w1 ⟨v1, rfl, hown, hU⟩)
  rw [PS.ways_length] at hown
  obtain ⟨A1, c1, rfl⟩ := own_slice hown
  have hS0 : SC w w1 b br base s (.slice A s.ways.length c) (.slice A1 s.ways.length c1) := SC_of ⟨Blk.upd hU HB.out id, RP.upd hU H.out id fun _ _ => id, hown, hU⟩
  have hc0 := hS0.1
  have hH0 := hS0.2
  have H0 := Lib.hid H.out
  clear hown hU HB H hS0
  go_wp2_with fail
  go_region_held3 (fun w' => w'.cell? ⟨br, 3, none⟩ = some (.slice A s.ways.length c) ∧ Hid (HC w w' b br base s (.slice A s.ways.length c) (.slice A1 s.ways.length c1))) (first | exact SC_drew ⟨hc0, hH0⟩ | exact SC_upd (by assumption) (by assumption) | exact SC_drew (by assumption) | exact SC_upd (by assumption) ⟨hc0, hH0⟩)
    (first | (go_at_call 29; refine Calls.mono (len_held (w := w) (b := b) (br := br) (base := base) (s := s) (v := .slice A s.ways.length c) (v1 := .slice A1 s.ways.length c1) HS.out ?hh) ?_; (case hh => assumption); rintro e w5 ⟨rfl, U5⟩) | (go_at_call 30; refine Calls.mono (idle_held (w := w) (b := b) (br := br) (base := base) (s := s) (v := .slice A s.ways.length c) (v1 := .slice A1 s.ways.length c1) HS.out ?hh) ?_; (case hh => assumption); rintro e w5 ⟨rfl, U5⟩) | (go_at_call 56; refine Calls.mono (refIdle_held (w := w) (b := b) (br := br) (base := base) (s := s) (v := .slice A s.ways.length c) (v1 := .slice A1 s.ways.length c1) ?hh) ?_; (case hh => assumption); rintro e w5 ⟨rfl, U5⟩))
  rename_i hS
  have HH := Lib.hid hS.2.out
  have hc5 := hS.1
  clear hS hc0 hH0
  clear U5
  have hsz := HH.out.2.2.2.size
  have hU5 := HH.out.2.2.2
  have HU5 := Lib.hid hU5
  have hr5 := HH.out.2.1
  by_cases hn : s.ways.length = 0
  · have z0 : ¬ (0 : Int) < s.ways.length := by omega
    clear hr5 hU5
    go_wp2_with fail
    go_loopw [6] (fun i wr => i = .int .i64 0 ∧ wr = w5) (fun _ _ => 0)
    case atStart => exact ⟨rfl, rfl⟩
    case round =>
      obtain ⟨rfl, rfl⟩ := hrel
      go_wp2_with fail
      go_ret
      exact ⟨rfl, HU5.out⟩
  · have hn0 : 0 < s.ways.length := by omega
    have hw16 : s.ways.length ≤ 16 := Nat.le_trans (PS.ways_le s) HS.out.le
    obtain ⟨g1, c1', hA1, hgb, hgl⟩ := own_form HH.out.2.2.1 hn0
    injection hA1 with hA1 _ _
    subst hA1
    obtain ⟨g2, c2', hA2, hgb2, hgl2⟩ := own_form hr5.row hn0
    injection hA2 with hA2 _ _
    subst hA2
    obtain ⟨cur, hC, hcur⟩ := own_cells HH.out.2.2.1 rfl
    obtain ⟨cur2, hC2, hcur2⟩ := own_cells hr5.row rfl
    have hg2w : g2 < w.heap.size := by
      have := (own_block H0.out.row g2 rfl).2
      exact this
    have n1 : g1 ≠ g2 := by omega
    have n2 : g1 ≠ br := by omega
    have hd : ∀ j x, 0 ≤ j → s.ways[j]? = some x → cur[j * 3]? = some (.int .i64 x.1.wo) ∧ cur[j * 3 + 1]? = some (.int .u32 x.1.va) ∧ cur[j * 3 + 2]? = some (.int .i64 x.1.er) := fun j x _ hx =>
      have h := dues_at (PS.upto_at hx)
      ⟨hcur _ _ h.1, hcur _ _ h.2.1, hcur _ _ h.2.2⟩
    have HD2 := Lib.hid hcur2
    have HD := Lib.hid hd
    have HC := Lib.hid hC
    have HC2 := Lib.hid hC2
    have HBR := Lib.hid hr5.blk
    clear hr5 hU5 hC hC2 hcur hcur2 hd
    go_wp2_with fail
    go_loopw [6] (fun i wr => ∃ (t : Nat) (cur : Array Value), t ≤ s.ways.length ∧ i = .int .i64 t ∧ Blk wr g1 cur 33 ∧ Blk wr g2 cur2 62 ∧ Blk wr br #[.int .i64 s.lat, .bool s.began, .bool (s.cells s.now).is, .slice (some ⟨g2, 0, none⟩) s.ways.length c] 111 ∧
      (∀ j x, t ≤ j → s.ways[j]? = some x → cur[j * 3]? = some (.int .i64 x.1.wo) ∧ cur[j * 3 + 1]? = some (.int .u32 x.1.va) ∧ cur[j * 3 + 2]? = some (.int .i64 x.1.er)) ∧ Upd Non w wr) (fun i _ => s.ways.length - (intOf i).toNat)
    case atStart => exact ⟨0, cur, by omega, rfl, HC.out, HC2.out, HBR.out, HD.out, HU5.out⟩
    case round =>
      clear HC HC2 HBR HD HU5 HH hc5
      obtain ⟨t, cur, ht, rfl, hc, hc2, hbr, hd, hu⟩ := hrel
      have HC := Lib.hid hc
      have HC2 := Lib.hid hc2
      have HBR := Lib.hid hbr
      have HD := Lib.hid hd
      have HU := Lib.hid hu
      have q3 := hbr.cell 3 rfl
      clear hc hc2 hbr hd hu
      by_cases hlt2 : t < s.ways.length
      case neg =>
        have k1 : ¬ (t : Int) < s.ways.length := by omega
        go_wp2_with fail
        go_ret
        exact ⟨rfl, HU.out⟩
      have k1 : (t : Int) < s.ways.length := by omega
      obtain ⟨x, hxt⟩ : ∃ x, s.ways[t]? = some x := ⟨_, List.getElem?_eq_getElem hlt2⟩
      obtain ⟨u0, u1, u2⟩ := HD.out t x (Nat.le_refl _) hxt
      obtain ⟨r0, r1, r2, _⟩ := wenc_at hxt
      have p0 := HC.out.cell _ u0
      have p1 := HC.out.cell _ u1
      have p2 := HC.out.cell _ u2
      have f0 := HC.out.frozen (t * 3)
      have p3 := HC2.out.cell _ (HD2.out _ _ r0)
      have p4 := HC2.out.cell _ (HD2.out _ _ r1)
      have p5 := HC2.out.cell _ (HD2.out _ _ r2)
      clear u0 u1 u2 r0 r1 r2
      go_wp2_with fail
      go_region
      all_goals
        go_wp2_with fail
        go_roundw
        case rel =>
          refine ⟨t + 1, cur.setIfInBounds (t * 3) (.int .i64 99), by omega, by go_num, ?_, ?_, ?_, ?_, ?_⟩
          · have h := HC.out
            ((with_reducible repeat' first | apply Blk.drew | apply Blk.drewN | apply Blk.alloc | apply Blk.set | refine Blk.set_ne ?_ ?_) <;> first | with_reducible exact h | omega | (dsimp only; omega))
          · have h := HC2.out
            ((with_reducible repeat' first | apply Blk.drew | apply Blk.drewN | apply Blk.alloc | apply Blk.set | refine Blk.set_ne ?_ ?_) <;> first | with_reducible exact h | omega | (dsimp only; omega))
          · have h := HBR.out
            ((with_reducible repeat' first | apply Blk.drew | apply Blk.drewN | apply Blk.alloc | apply Blk.set | refine Blk.set_ne ?_ ?_) <;> first | with_reducible exact h | omega | (dsimp only; omega))
          · intro j y hj hy
            obtain ⟨a, b, c⟩ := HD.out j y (by omega) hy
            rw [Array.getElem?_setIfInBounds_ne (by omega), Array.getElem?_setIfInBounds_ne (by omega), Array.getElem?_setIfInBounds_ne (by omega)]
            exact ⟨a, b, c⟩
          · have h := HU.out
            ((with_reducible repeat' first | exact Upd.refl _ _ | apply Upd.drew | apply Upd.drewN | apply Upd.alloc | refine Upd.setCell ?_ ?_ | refine Upd.call h ?_ ?_) <;> first | (intro _ _ h; exact h) | (intro _ _ h; exact h.elim) | (intro i h1 h2; exfalso; (try simp only at h2); omega) | (left; rfl) | (right; dsimp only; omega) | (right; omega))
        case measure => simp [intOf]; omega
end Go.Proofs.Ytnmbkhofikbcjaa
