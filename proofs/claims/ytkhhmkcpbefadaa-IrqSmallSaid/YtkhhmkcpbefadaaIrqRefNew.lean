/- The document's New, of any devices. Conditions: the devices' cells are known; there are not more than 1000. -/
import Derived.Test.YtkhhmkcpbefadaaIrqRefLook
import Derived.Test.YtkhhmkcpbefadaaIrqNew
namespace Go.Proofs.Ytkhhmkcpbefadaa
open Go.RowKit
theorem zero85 (w : World) : (zeroValue 85).run Try.prog w = .ok (.agg (renc (.slice none 0 0) fun _ => false)) w := (zero_of_info (n := 129) (by kernel_rfl)).1 w
theorem renc_ne (v : Value) (f : Nat → Bool) : renc v f ≠ #[] := by unfold renc; simp
/-- What holds between two rounds. -/
structure RB (w W : World) (b : Nat) (v : Value) (ws : List WR) : Prop where
  bb : Blk W b (renc v fun _ => false) 85
  own : W.ownsRow w.heap.size 87 3 v ws.length (wenc ws)
  ne : v.ownBlock ≠ some b
  up : Upd Non w W
theorem RWires.of_own' {w : World} {base : Nat} {v : Value} {ws : List WR} {r0 : Nat} (h : w.ownsRow base 87 3 v ws.length (wenc ws)) : ∃ r, RWires w v ws r ∧ ((v = .slice none 0 0 ∧ r = r0) ∨ (v.ownBlock = some r ∧ base ≤ r ∧ r < w.heap.size)) := RWires.of_own h
theorem RB.board {w W : World} {v : Value} {ws : List WR} (h : RB w W w.heap.size v ws) : ∃ r, RI W w.heap.size r ws (fun _ => false) ∧ w.heap.size ≤ r := by
  obtain ⟨r, hr, hc⟩ := RWires.of_own' (r0 := w.heap.size) h.own
  rcases hc with ⟨rfl, rfl⟩ | ⟨h1, h2, h3⟩
  · refine ⟨_, ⟨⟨_, h.bb, hr, .inr ⟨?_, rfl⟩⟩, h.bb.lt⟩, Nat.le_refl _⟩
    rcases hr with ⟨h, _⟩ | ⟨_, _, h, _⟩
    · exact h
    · cases h
  · exact ⟨r, ⟨⟨_, h.bb, hr, .inl fun e => h.ne (e ▸ h1)⟩, h3⟩, h2⟩
def RNewP (w : World) (O N : Nat → Int) (n : Nat) (e : Ending) (w' : World) : Prop :=
  ((∀ i, i < n → goodD (O i) (N i)) ∧ n ≤ 16 ∧ e = .returned (.tuple #[.pointer (some ⟨w.heap.size, 0, none⟩), .int .i64 0]) ∧ (∃ r, RI w' w.heap.size r (wiresOf O N n) (fun _ => false) ∧ w.heap.size ≤ r)) ∨
  (¬ ((∀ i, i < n → goodD (O i) (N i)) ∧ n ≤ 16) ∧ e = .returned (.tuple #[.pointer none, .int .i64 2]))
def RP (w w' : World) (b : Nat) (v : Value) : Prop := Blk w' b (renc v fun _ => false) 85 ∧ Upd Non w w'
def RS (w w' : World) (b : Nat) (v : Value) (ba o3 o4 : Nat) (ow ln : Int) : Prop :=
  w'.cell? ⟨b, 0, none⟩ = some v ∧ w'.frozen? ⟨b, 0, none⟩ = false ∧ w'.cell? ⟨ba, o3, none⟩ = some (.int .i64 ow) ∧ w'.cell? ⟨ba, o4, none⟩ = some (.int .i64 ln) ∧ Hid (RP w w' b v)
section
variable {w a d : World} {b ba o3 o4 : Nat} {v : Value} {ow ln : Int}
theorem RS_of (h : RP w a b v) (h3 : w.cell? ⟨ba, o3, none⟩ = some (.int .i64 ow)) (h4 : w.cell? ⟨ba, o4, none⟩ = some (.int .i64 ln)) : RS w a b v ba o3 o4 ow ln := ⟨h.1.cell 0 (renc_row _ _), h.1.frozen 0, h.2.cell_eq id h3, h.2.cell_eq id h4, Lib.hid h⟩
theorem RS_drew (h3 : w.cell? ⟨ba, o3, none⟩ = some (.int .i64 ow)) (h4 : w.cell? ⟨ba, o4, none⟩ = some (.int .i64 ln)) (h : RS w a b v ba o3 o4 ow ln) : RS w a.drew b v ba o3 o4 ow ln := RS_of ⟨h.2.2.2.2.out.1.drew, h.2.2.2.2.out.2.drew⟩ h3 h4
theorem RS_alloc {o : Obj} (h3 : w.cell? ⟨ba, o3, none⟩ = some (.int .i64 ow)) (h4 : w.cell? ⟨ba, o4, none⟩ = some (.int .i64 ln)) (h : RS w a b v ba o3 o4 ow ln) : RS w (a.alloc o) b v ba o3 o4 ow ln := RS_of ⟨h.2.2.2.2.out.1.alloc, h.2.2.2.2.out.2.alloc⟩ h3 h4
theorem RS_grown (h3 : w.cell? ⟨ba, o3, none⟩ = some (.int .i64 ow)) (h4 : w.cell? ⟨ba, o4, none⟩ = some (.int .i64 ln)) (g : a.grownBy d v.ownBlock) (h1 : v.ownBlock ≠ some b) (h5 : ∀ r, v.ownBlock = some r → w.heap.size ≤ r) (h : RS w a b v ba o3 o4 ow ln) : RS w d b v ba o3 o4 ow ln :=
  RS_of ⟨blk_grown g h.2.2.2.2.out.1 h1, Upd.grown g h.2.2.2.2.out.2 fun r hr => .inr (h5 r hr)⟩ h3 h4
end
set_option maxRecDepth 100000 in
set_option maxHeartbeats 8000000 in
theorem rnew_is (A : Option Addr) (n cc : Nat) (O N : Nat → Int) (hn : n ≤ 1000) (w : World) (hd : 0 < n → ∃ b o, A = some ⟨b, o, none⟩ ∧ ∀ i, i < n → DevAt w b o i (O i) (N i)) :
    Calls Try.prog 23 #[.slice A n cc] w fun e w' => RNewP w O N n e w' ∧ Upd Non w w' := by
  have HD := Lib.hid hd
  clear hd
  obtain ⟨i0, hi0, hz0⟩ := Option.map_eq_some_iff.1 (show (Try.prog.info? 87).map (fun i => (i.zero, i.size, i.bytes)) = some (some (.agg #[.int .i64 0, .int .i64 0, .bool false]), 3, 24) by kernel_rfl)
  simp only [Prod.mk.injEq] at hz0
  obtain ⟨hz1, hz2, hz3⟩ := hz0
  have HI := Lib.hid (And.intro hi0 (And.intro hz1 (And.intro hz2 hz3)))
  clear hi0 hz1 hz2 hz3
  obtain ⟨Z, hZ⟩ : ∃ Z, Z = renc (.slice none 0 0) (fun _ => false) := ⟨_, rfl⟩
  have z85 : ∀ w, (zeroValue 85).run Try.prog w = .ok (.agg Z) w := fun w => hZ ▸ zero85 w
  have zne : ¬ Z = #[] := hZ ▸ renc_ne _ _
  have HZZ := Lib.hid hZ
  clear hZ
  go_enter Try.func23, Try.ntmps23
  go_wp2_with fail
  obtain ⟨b, hb⟩ : ∃ x, x = w.heap.size := ⟨_, rfl⟩
  have HB := Lib.hid hb
  have HN := Lib.hid (show RB w (w.alloc (.cells Z 85)) b (.slice none 0 0) (wiresOf O N 0) from
    ⟨by rw [HZZ.out]; exact Blk.newAt hb, World.ownsRow_nil _ _ _ _, (fun h => by cases h), by ((with_reducible repeat' first | exact Upd.refl _ _ | apply Upd.drew | apply Upd.drewN | apply Upd.alloc | refine Upd.setCell ?_ ?_) <;> first | (intro _ _ h; exact h) | (intro _ _ h; exact h.elim) | (intro i h1 h2; exfalso; (try simp only at h2); omega) | (left; rfl) | (right; dsimp only; omega) | (right; omega))⟩)
  rw [← hb]
  have hbw2 : w.heap.size ≤ b := by omega
  clear hb
  go_loopw [5] (fun i wr => ∃ (t : Nat) (v : Value), t ≤ n ∧ i = .int .i64 t ∧ RB w wr b v (wiresOf O N t) ∧ ∀ i, i < t → goodD (O i) (N i)) (fun i _ => n - (intOf i).toNat)
  case atStart => exact ⟨0, _, Nat.zero_le _, rfl, HN.out, fun i h => absurd h (by omega)⟩
  case round =>
    clear HN z85 zne HZZ
    obtain ⟨t, v, ht, rfl, hN, hg⟩ := hrel
    have HN := Lib.hid hN
    have HG := Lib.hid hg
    clear hN hg
    by_cases hlt : t < n
    case neg =>
      have k1 : ¬ (t : Int) < n := by omega
      obtain rfl : t = n := by omega
      by_cases k3 : t ≤ 16
      · have k2 : ¬ (16 : Int) < t := by omega
        go_wp2_with fail
        go_ret2
        refine ⟨.inl ⟨HG.out, k3, congrArg (fun x => Ending.returned (.tuple #[.pointer (some ⟨x, 0, none⟩), .int .i64 0])) HB.out, by have h := HN.out; rw [HB.out] at h; exact h.board⟩, HN.out.up⟩
      · have k2 : (16 : Int) < t := by omega
        go_wp2_with fail
        go_ret2
        refine ⟨.inr ⟨fun h => k3 h.2, rfl⟩, HN.out.up⟩
    have k1 : (t : Int) < n := by omega
    obtain ⟨ba, o, rfl, hdev⟩ := HD.out (by omega)
    obtain ⟨c0, c1, c2, d0, d1, d2, d3, d4⟩ := hdev t hlt
    obtain ⟨ow, how⟩ : ∃ x, x = O t := ⟨_, rfl⟩
    obtain ⟨ln, hln⟩ : ∃ x, x = N t := ⟨_, rfl⟩
    rw [← how] at d3
    rw [← hln] at d4
    have HW := Lib.hid (show wiresOf O N (t + 1) = wiresOf O N t ++ [⟨ow, ln, false⟩] by rw [how, hln]; rfl)
    have HV := Lib.hid (show goodD ow ln ↔ goodD (O t) (N t) by rw [how, hln])
    have D3 := Lib.hid d3
    have D4 := Lib.hid d4
    have e3 := HN.out.up.cell_eq id d3
    have e4 := HN.out.up.cell_eq id d4
    clear hdev d0 d1 d2 d3 d4 how hln HD
    have hwz : w.heap.size ≤ wr.heap.size := HN.out.up.size
    by_cases q : (ow < -1 ∨ 7 < ow) ∨ (ln < -1 ∨ 7 < ln)
    · go_wp2_with fail
      all_goals first
        | (exfalso; omega)
        | (go_ret2
           refine ⟨.inr ⟨fun h => ?_, rfl⟩, HN.out.up⟩
           have h2 := HV.out.2 (h.1 t hlt)
           unfold goodD at h2
           omega)
    have q1 : ¬ ow < -1 := by omega
    have q2 : ¬ 7 < ow := by omega
    have q3 : ¬ ln < -1 := by omega
    have q4 : ¬ 7 < ln := by omega
    clear q
    have hS0 : RS w wr b v ba (o + t * 5 + 3) (o + t * 5 + 4) ow ln := RS_of ⟨HN.out.bb, HN.out.up⟩ D3.out D4.out
    have hn : v.ownBlock ≠ some b := HN.out.ne
    have hnr : ∀ r, v.ownBlock = some r → w.heap.size ≤ r := fun r h => (own_block HN.out.own r h).1
    have hbw : b < wr.heap.size := HN.out.bb.lt
    have hO0 := HN.out.own
    have hlen : (wiresOf O N t).length = t := wiresOf_length O N t
    clear HN e3 e4
    have x0 := hS0.1
    have xf := hS0.2.1
    have x3 := hS0.2.2.1
    have x4 := hS0.2.2.2.1
    have hne0 := World.new_ne wr _ x0
    have hne3 := World.new_ne wr _ x3
    have hne4 := World.new_ne wr _ x4
    have HS := Lib.hid hS0
    have HO := Lib.hid hO0
    clear hS0 hO0
    go_wp2_with fail
    go_region_law ((refine step_append_lies _ (by rfl) _ _ 81 (by rfl) w.heap.size 87 i0 (.agg #[.int .i64 0, .int .i64 0, .bool false]) 3 24 Try.underlying81 HI.out.1 HI.out.2.1 HI.out.2.2.1 HI.out.2.2.2 rfl (by decide) v (wiresOf O N t).length (wenc (wiresOf O N t)) (by rfl) (by first | exact own_drew (own_alloc HO.out _) | exact own_alloc (own_drew HO.out) _ | exact own_alloc HO.out _) ⟨wr.heap.size, 0, none⟩ 1 1 [.int .i64 ow, .int .i64 ln, .bool false] (by rfl) (by rfl) (World.news_of_block (heap_alloc_new _ _)) (by simp [Value.oneCell']) (by decide) (by simp only [maxLen]; omega) (by omega) (by first | exact Nat.le_trans hwz (Upd.drew (Upd.alloc (Upd.refl Non _))).size | exact Nat.le_trans hwz (Upd.alloc (Upd.drew (Upd.refl Non _))).size) (wr.heap.size + 1) (by simp) ?_; intro g cap w1 hown hgrow hat hlt1; have hS1 := RS_grown D3.out D4.out hgrow hn hnr (by first | exact RS_drew D3.out D4.out (RS_alloc D3.out D4.out HS.out) | exact RS_alloc D3.out D4.out (RS_drew D3.out D4.out HS.out)); have q5 := hS1.1; have qf := hS1.2.1; have HS1 := Lib.hid hS1; clear hS1))
    all_goals
      go_wp2_with fail
      have hg : (some g : Option Nat) ≠ some b := by
        rcases hat with hat | hat
        · rw [← hat]; exact hn
        · intro h; injection h with h; omega
      refine ⟨⟨t + 1, .slice (some ⟨g, 0, none⟩) (t + 1) cap, by omega, rfl, ⟨?_, ?_, ?_, ?_⟩, ?_⟩, by simp only [intOf]; omega⟩
      · exact Blk.eq (Blk.set HS1.out.2.2.2.2.out.1) (renc_setRow _ _ _)
      · have h2 := own_set (p := ⟨b, 0, none⟩) (u := .slice (some ⟨g, 0, none⟩) (t + 1) cap) hown hg
        rw [HW.out, wenc_append, show (wiresOf O N t ++ [(⟨ow, ln, false⟩ : WR)]).length = (wiresOf O N t).length + 1 from List.length_append]
        rw [hlen] at h2 ⊢
        exact h2
      · exact hg
      · exact HS1.out.2.2.2.2.out.2.setCell (.inr hbw2)
      · intro i hi
        by_cases h : i < t
        · exact HG.out i h
        · rw [show i = t by omega]; exact HV.out.1 (by unfold goodD; omega)
end Go.Proofs.Ytkhhmkcpbefadaa
