/- New, of any devices. Conditions: the devices' cells are known; there are not more than 1000. -/
import Derived.Test.YtkhhmkcpbefadaaIrqBoard
import Derived.Maps.AppendAt
import Derived.Deep.RegionLaw
import Derived.Deep.AppendLies
import Derived.Deep.RegionHeld3
namespace Go.Proofs.Ytkhhmkcpbefadaa
open Go.RowKit
/-- A device's cells. -/
def DevAt (w : World) (b o : Nat) (i : Nat) (O N : Int) : Prop := ∃ c0 c1 c2, w.cell? ⟨b, o + i * 5, none⟩ = some (.int .i64 c0) ∧ w.cell? ⟨b, o + i * 5 + 1, none⟩ = some (.int .u32 c1) ∧ w.cell? ⟨b, o + i * 5 + 2, none⟩ = some (.int .i64 c2) ∧ w.cell? ⟨b, o + i * 5 + 3, none⟩ = some (.int .i64 O) ∧ w.cell? ⟨b, o + i * 5 + 4, none⟩ = some (.int .i64 N)
def wiresOf (O N : Nat → Int) : Nat → List WR
  | 0 => []
  | t + 1 => wiresOf O N t ++ [⟨O t, N t, false⟩]
theorem wiresOf_length (O N : Nat → Int) : ∀ t, (wiresOf O N t).length = t
  | 0 => rfl
  | t + 1 => by rw [wiresOf, List.length_append, wiresOf_length O N t]; rfl
theorem wiresOf_at (O N : Nat → Int) : ∀ t i, i < t → (wiresOf O N t)[i]? = some ⟨O i, N i, false⟩
  | t + 1, i, h => by
    rw [wiresOf]
    by_cases hi : i < t
    · rw [List.getElem?_append_left (by rw [wiresOf_length]; exact hi)]; exact wiresOf_at O N t i hi
    · rw [List.getElem?_append_right (by rw [wiresOf_length]; omega), wiresOf_length, show i - t = 0 by omega, show i = t by omega]; rfl
def goodD (O N : Int) : Prop := -1 ≤ O ∧ O < 8 ∧ -1 ≤ N ∧ N < 8
instance (O N : Int) : Decidable (goodD O N) := inferInstanceAs (Decidable (_ ∧ _))
theorem wiresOf_fit (O N : Nat → Int) (n : Nat) (h : ∀ i, i < n → goodD (O i) (N i)) : Fit (wiresOf O N n) WS.fresh :=
  ⟨fun i x hx => by
    have hi : i < n := by have := (List.getElem?_eq_some_iff.1 hx).1; rwa [wiresOf_length] at this
    rw [wiresOf_at O N n i hi] at hx
    cases hx
    exact h i hi, fun _ => by show 0 < 256; decide, fun _ => by show 0 < 256; decide⟩
/-- What holds between two rounds of New. -/
structure NB (w W : World) (b : Nat) (v : Value) (ws : List WR) : Prop where
  bb : BBlk W b v WS.fresh
  own : W.ownsRow w.heap.size 73 3 v ws.length (wenc ws)
  ne : v.ownBlock ≠ some b
  up : Upd Non w W
theorem NB.non {w W W' : World} {b : Nat} {v : Value} {ws : List WR} (h : NB w W b v ws) (u : Upd Non W W') : NB w W' b v ws :=
  ⟨h.bb.upd u id, own_upd u h.own (fun _ _ => id), h.ne, Upd.call u h.up fun _ _ h => h⟩
theorem NB.board {w W : World} {v : Value} {ws : List WR} (h : NB w W w.heap.size v ws) : ∃ r, BI W w.heap.size r ws WS.fresh ∧ w.heap.size ≤ r := by
  obtain ⟨r, hr, hc⟩ := Wires.of_own (r0 := w.heap.size) h.own
  rcases hc with ⟨rfl, rfl⟩ | ⟨h1, h2, h3⟩
  · refine ⟨_, ⟨⟨_, h.bb, hr, .inr ⟨?_, rfl⟩⟩, h.bb.blk.lt⟩, Nat.le_refl _⟩
    rcases hr with ⟨h, _⟩ | ⟨_, _, h, _⟩
    · exact h
    · cases h
  · exact ⟨r, ⟨⟨_, h.bb, hr, .inl fun e => h.ne (e ▸ h1)⟩, h3⟩, h2⟩
/-- What New answers. -/
def NewP (w : World) (O N : Nat → Int) (n : Nat) (e : Ending) (w' : World) : Prop :=
  ((∀ i, i < n → goodD (O i) (N i)) ∧ n ≤ 16 ∧ e = .returned (.tuple #[.pointer (some ⟨w.heap.size, 0, none⟩), .int .i64 0]) ∧ (∃ r, BI w' w.heap.size r (wiresOf O N n) WS.fresh ∧ w.heap.size ≤ r)) ∨
  (¬ ((∀ i, i < n → goodD (O i) (N i)) ∧ n ≤ 16) ∧ e = .returned (.tuple #[.pointer none, .int .i64 2]))
theorem blk_grown {w w' : World} {b : Nat} {c : Array Value} {t : TypeId} {r : Option Nat} (h : w.grownBy w' r) (hb : Blk w b c t) (hr : r ≠ some b) : Blk w' b c t := by
  unfold Blk; rw [h.block b hb.lt (fun e => hr e.symm)]; exact hb
/-- What is held over the statement that appends. -/
def HP (w w' : World) (b bx : Nat) (v : Value) (c : Array Value) : Prop := BBlk w' b v WS.fresh ∧ Blk w' bx c 31 ∧ Upd Non w w'
def SP (w w' : World) (b bx : Nat) (v : Value) (ow ln : Int) (c : Array Value) : Prop :=
  w'.cell? ⟨b, 0, none⟩ = some v ∧ w'.frozen? ⟨b, 0, none⟩ = false ∧ w'.cell? ⟨bx, 3, none⟩ = some (.int .i64 ow) ∧ w'.cell? ⟨bx, 4, none⟩ = some (.int .i64 ln) ∧ Hid (HP w w' b bx v c)
section
variable {w a d : World} {b bx : Nat} {v : Value} {c0 c1 c2 : Value} {ow ln : Int}
theorem SP_of (h : HP w a b bx v #[c0, c1, c2, .int .i64 ow, .int .i64 ln]) : SP w a b bx v ow ln #[c0, c1, c2, .int .i64 ow, .int .i64 ln] := ⟨h.1.blk.cell 0 (benc_row _ _), h.1.blk.frozen 0, h.2.1.cell 3 rfl, h.2.1.cell 4 rfl, Lib.hid h⟩
theorem SP_drew (h : SP w a b bx v ow ln #[c0, c1, c2, .int .i64 ow, .int .i64 ln]) : SP w a.drew b bx v ow ln #[c0, c1, c2, .int .i64 ow, .int .i64 ln] := SP_of ⟨h.2.2.2.2.out.1, h.2.2.2.2.out.2.1, h.2.2.2.2.out.2.2.drew⟩
theorem SP_alloc {o : Obj} (h : SP w a b bx v ow ln #[c0, c1, c2, .int .i64 ow, .int .i64 ln]) : SP w (a.alloc o) b bx v ow ln #[c0, c1, c2, .int .i64 ow, .int .i64 ln] := SP_of ⟨h.2.2.2.2.out.1.blk.alloc, h.2.2.2.2.out.2.1.alloc, h.2.2.2.2.out.2.2.alloc⟩
theorem SP_grown (g : a.grownBy d v.ownBlock) (h1 : v.ownBlock ≠ some b) (h2 : v.ownBlock ≠ some bx) (h3 : ∀ r, v.ownBlock = some r → w.heap.size ≤ r) (h : SP w a b bx v ow ln #[c0, c1, c2, .int .i64 ow, .int .i64 ln]) : SP w d b bx v ow ln #[c0, c1, c2, .int .i64 ow, .int .i64 ln] :=
  SP_of ⟨blk_grown g h.2.2.2.2.out.1.blk h1, blk_grown g h.2.2.2.2.out.2.1 h2, Upd.grown g h.2.2.2.2.out.2.2 fun r hr => .inr (h3 r hr)⟩
end
theorem own_alloc {w : World} {base size n : Nat} {e : TypeId} {v : Value} {xs : List Value} (h : w.ownsRow base e size v n xs) (o : Obj) : (w.alloc o).ownsRow base e size v n xs :=
  own_upd (S := Non) ((Upd.refl Non w).alloc) h fun _ _ => id
theorem own_drew {w : World} {base size n : Nat} {e : TypeId} {v : Value} {xs : List Value} (h : w.ownsRow base e size v n xs) : w.drew.ownsRow base e size v n xs := h
theorem own_set {w : World} {base size n : Nat} {e : TypeId} {v : Value} {xs : List Value} {p : Addr} {u : Value} (h : w.ownsRow base e size v n xs) (hp : v.ownBlock ≠ some p.block) : (w.setCell p u).ownsRow base e size v n xs :=
  own_upd (S := fun i => i = p.block) ((Upd.refl _ w).setCell (.inl rfl)) h fun _ hk hh => hp (hh ▸ hk)
set_option maxRecDepth 100000 in
set_option maxHeartbeats 8000000 in
theorem new_is (A : Option Addr) (n cc : Nat) (O N : Nat → Int) (hn : n ≤ 1000) (w : World) (hd : 0 < n → ∃ b o, A = some ⟨b, o, none⟩ ∧ ∀ i, i < n → DevAt w b o i (O i) (N i)) :
    Calls Try.prog 9 #[.slice A n cc] w fun e w' => NewP w O N n e w' ∧ Upd Non w w' := by
  have HD := Lib.hid hd
  clear hd
  obtain ⟨i0, hi0, hz0⟩ := Option.map_eq_some_iff.1 (show (Try.prog.info? 73).map (fun i => (i.zero, i.size, i.bytes)) = some (some (.agg #[.int .i64 0, .int .i64 0, .bool false]), 3, 24) by kernel_rfl)
  simp only [Prod.mk.injEq] at hz0
  obtain ⟨hz1, hz2, hz3⟩ := hz0
  have HI := Lib.hid (And.intro hi0 (And.intro hz1 (And.intro hz2 hz3)))
  clear hi0 hz1 hz2 hz3
  go_enter Try.func9, Try.ntmps9
  go_wp2_with fail
  obtain ⟨b, hb⟩ : ∃ x, x = w.heap.size := ⟨_, rfl⟩
  have HB := Lib.hid hb
  have HN := Lib.hid (show NB w (w.alloc (.cells (benc (.slice none 0 0) WS.fresh) 70)) b (.slice none 0 0) (wiresOf O N 0) from
    ⟨Blk.newAt hb, World.ownsRow_nil _ _ _ _, (fun h => by cases h), by ((with_reducible repeat' first | exact Upd.refl _ _ | apply Upd.drew | apply Upd.drewN | apply Upd.alloc | refine Upd.setCell ?_ ?_) <;> first | (intro _ _ h; exact h) | (intro _ _ h; exact h.elim) | (intro i h1 h2; exfalso; (try simp only at h2); omega) | (left; rfl) | (right; dsimp only; omega) | (right; omega))⟩)
  rw [← hb]
  have hbw2 : w.heap.size ≤ b := by omega
  clear hb
  go_loopw [11] (fun i wr => ∃ (t : Nat) (v : Value), t ≤ n ∧ i = .int .i64 t ∧ NB w wr b v (wiresOf O N t) ∧ ∀ i, i < t → goodD (O i) (N i)) (fun i _ => n - (intOf i).toNat)
  case atStart => exact ⟨0, _, Nat.zero_le _, rfl, HN.out, fun i h => absurd h (by omega)⟩
  case round =>
    clear HN
    obtain ⟨t, v, ht, rfl, hN, hg⟩ := hrel
    have HN := Lib.hid hN
    have HG := Lib.hid hg
    clear hN hg
    by_cases hlt : t < n
    case neg =>
      have k1 : ¬ (t : Int) < n := by omega
      obtain rfl : t = n := by omega
      by_cases k3 : t ≤ 16
      · have k2 : ¬ (16 : Int) < t := by omega
        go_wp2_with fail
        go_ret2
        refine ⟨.inl ⟨HG.out, k3, congrArg (fun x => Ending.returned (.tuple #[.pointer (some ⟨x, 0, none⟩), .int .i64 0])) HB.out, by have h := HN.out; rw [HB.out] at h; exact h.board⟩, HN.out.up⟩
      · have k2 : (16 : Int) < t := by omega
        go_wp2_with fail
        go_ret2
        refine ⟨.inr ⟨fun h => k3 h.2, rfl⟩, HN.out.up⟩
    have k1 : (t : Int) < n := by omega
    obtain ⟨ba, o, rfl, hdev⟩ := HD.out (by omega)
    obtain ⟨c0, c1, c2, d0, d1, d2, d3, d4⟩ := hdev t hlt
    have e0 := HN.out.up.cell_eq id d0
    have e1 := HN.out.up.cell_eq id d1
    have e2 := HN.out.up.cell_eq id d2
    have e3 := HN.out.up.cell_eq id d3
    have e4 := HN.out.up.cell_eq id d4
    obtain ⟨ow, how⟩ : ∃ x, x = O t := ⟨_, rfl⟩
    obtain ⟨ln, hln⟩ : ∃ x, x = N t := ⟨_, rfl⟩
    rw [← how] at e3
    rw [← hln] at e4
    have HW := Lib.hid (show wiresOf O N (t + 1) = wiresOf O N t ++ [⟨ow, ln, false⟩] by rw [how, hln]; rfl)
    have HV := Lib.hid (show goodD ow ln ↔ goodD (O t) (N t) by rw [how, hln])
    clear hdev d0 d1 d2 d3 d4 how hln HD
    have hwr : w.heap.size ≤ wr.heap.size := HN.out.up.size
    obtain ⟨b6, hb6⟩ : ∃ x, x = wr.heap.size := ⟨_, rfl⟩
    have HB6 := Lib.hid hb6
    by_cases q1 : ow < -1
    · go_wp2_with fail
      go_ret2
      refine ⟨.inr ⟨fun h => ?_, rfl⟩, by have h := HN.out.up; ((with_reducible repeat' first | exact Upd.refl _ _ | apply Upd.drew | apply Upd.drewN | apply Upd.alloc | refine Upd.setCell ?_ ?_ | refine Upd.call h ?_ ?_) <;> first | (intro _ _ h; exact h) | (intro _ _ h; exact h.elim) | (intro i h1 h2; exfalso; (try simp only at h2); omega) | (left; rfl) | (right; dsimp only; omega) | (right; omega))⟩
      have h2 := HV.out.2 (h.1 t hlt)
      unfold goodD at h2
      omega
    by_cases q2 : 8 ≤ ow
    · go_wp2_with fail
      go_ret2
      refine ⟨.inr ⟨fun h => ?_, rfl⟩, by have h := HN.out.up; ((with_reducible repeat' first | exact Upd.refl _ _ | apply Upd.drew | apply Upd.drewN | apply Upd.alloc | refine Upd.setCell ?_ ?_ | refine Upd.call h ?_ ?_) <;> first | (intro _ _ h; exact h) | (intro _ _ h; exact h.elim) | (intro i h1 h2; exfalso; (try simp only at h2); omega) | (left; rfl) | (right; dsimp only; omega) | (right; omega))⟩
      have h2 := HV.out.2 (h.1 t hlt)
      unfold goodD at h2
      omega
    by_cases q3 : ln < -1 ∨ 8 ≤ ln
    · go_wp2_with fail
      refine (may_no ln q3 _).mono ?_
      rintro e w2 ⟨rfl, rfl⟩
      go_wp2_with fail
      go_ret2
      refine ⟨.inr ⟨fun h => ?_, rfl⟩, by have h := HN.out.up; ((with_reducible repeat' first | exact Upd.refl _ _ | apply Upd.drew | apply Upd.drewN | apply Upd.alloc | refine Upd.setCell ?_ ?_ | refine Upd.call h ?_ ?_) <;> first | (intro _ _ h; exact h) | (intro _ _ h; exact h.elim) | (intro i h1 h2; exfalso; (try simp only at h2); omega) | (left; rfl) | (right; dsimp only; omega) | (right; omega))⟩
      have h2 := HV.out.2 (h.1 t hlt)
      unfold goodD at h2
      omega
    go_wp2_with fail
    refine (may_yes ln (by omega) (by omega) _).mono ?_
    rintro e w2 ⟨rfl, hw2⟩
    have hN2 : NB w w2 b v (wiresOf O N t) := by rw [← hw2]; exact HN.out.non (Upd.refl _ _).alloc
    have hX2 : Blk w2 b6 #[.int .i64 c0, .int .u32 c1, .int .i64 c2, .int .i64 ow, .int .i64 ln] 31 := by rw [← hw2]; exact Blk.newAt hb6
    have hlt2 : b6 < w2.heap.size := hX2.lt
    have hwz : w.heap.size ≤ w2.heap.size := hN2.up.size
    have hn : v.ownBlock ≠ some b := hN2.ne
    have hnx : v.ownBlock ≠ some b6 := fun h => by have := (own_block HN.out.own b6 h).2; omega
    have hnr : ∀ r, v.ownBlock = some r → w.heap.size ≤ r := fun r h => (own_block HN.out.own r h).1
    have hS0 : SP w w2 b b6 v ow ln #[.int .i64 c0, .int .u32 c1, .int .i64 c2, .int .i64 ow, .int .i64 ln] := SP_of ⟨hN2.bb, hX2, hN2.up⟩
    have hbw : b < w2.heap.size := hN2.bb.blk.lt
    have hO0 := hN2.own
    rw [← hb6]
    clear hw2 hX2 hN2 e0 e1 e2 e3 e4 hb6 HB6
    clear HN
    have x0 := hS0.1
    have xf := hS0.2.1
    have x3 := hS0.2.2.1
    have x4 := hS0.2.2.2.1
    have HS := Lib.hid hS0
    have HO := Lib.hid hO0
    clear hS0 hO0
    have hlen : (wiresOf O N t).length = t := wiresOf_length O N t
    have hne0 := World.new_ne w2 _ x0
    have hne3 := World.new_ne w2 _ x3
    go_wp2_with fail
    go_region_law ((refine step_append_lies _ (by rfl) _ _ 61 (by rfl) w.heap.size 73 i0 (.agg #[.int .i64 0, .int .i64 0, .bool false]) 3 24 Try.underlying61 HI.out.1 HI.out.2.1 HI.out.2.2.1 HI.out.2.2.2 rfl (by decide) v (wiresOf O N t).length (wenc (wiresOf O N t)) (by rfl) (by first | exact own_drew (own_alloc HO.out _) | exact own_alloc (own_drew HO.out) _ | exact own_alloc HO.out _) ⟨w2.heap.size, 0, none⟩ 1 1 [.int .i64 ow, .int .i64 ln, .bool false] (by rfl) (by rfl) (World.news_of_block (heap_alloc_new _ _)) (by simp [Value.oneCell']) (by decide) (by simp only [maxLen]; omega) (by omega) (by first | exact Nat.le_trans hwz (Upd.drew (Upd.alloc (Upd.refl Non _))).size | exact Nat.le_trans hwz (Upd.alloc (Upd.drew (Upd.refl Non _))).size) (w2.heap.size + 1) (by simp) ?_; intro g cap w1 hown hgrow hat hlt1; have hS1 := SP_grown hgrow hn hnx hnr (by first | exact SP_drew (SP_alloc HS.out) | exact SP_alloc (SP_drew HS.out)); have q3 := hS1.1; have qf := hS1.2.1; have HS1 := Lib.hid hS1; clear hS1))
    all_goals
      go_wp2_with fail
      have hg : (some g : Option Nat) ≠ some b := by
        rcases hat with hat | hat
        · rw [← hat]; exact hn
        · intro h; injection h with h; omega
      refine ⟨⟨t + 1, .slice (some ⟨g, 0, none⟩) (t + 1) cap, by omega, rfl, ⟨?_, ?_, ?_, ?_⟩, ?_⟩, by simp only [intOf]; omega⟩
      · exact Blk.eq (Blk.set HS1.out.2.2.2.2.out.1.blk) (benc_setRow _ _ _)
      · have h2 := own_set (p := ⟨b, 0, none⟩) (u := .slice (some ⟨g, 0, none⟩) (t + 1) cap) hown hg
        rw [HW.out, wenc_append, show (wiresOf O N t ++ [(⟨ow, ln, false⟩ : WR)]).length = (wiresOf O N t).length + 1 from List.length_append]
        rw [hlen] at h2 ⊢
        exact h2
      · exact hg
      · exact HS1.out.2.2.2.2.out.2.2.setCell (.inr hbw2)
      · intro i hi
        by_cases h : i < t
        · exact HG.out i h
        · rw [show i = t by omega]; exact HV.out.1 (by unfold goodD; omega)
end Go.Proofs.Ytkhhmkcpbefadaa
