/- Contracts of the pipe's All and Len: what is on its way, in order. Conditions: the pipe's block is known whole, its latency is 1 to 16. -/
import Derived.Test.YtnmbkhofikbcjaaPipeFns
namespace Go.Proofs.Ytnmbkhofikbcjaa
open Go.RowKit

/-- What is told of a cell that is full. -/
def PC.due (c : PC) : List Value := [.int .i64 c.wo, .int .u32 c.va, .int .i64 c.er]
def dues (l : List PC) : List Value := l.flatMap PC.due
def PS.step (s : PS) (n : Nat) : List PC := if (s.cells (s.at_ n)).is then [s.cells (s.at_ n)] else []
/-- Those that are on their way in the next k cycles. -/
def PS.upto (s : PS) (k : Nat) : List PC := (List.range k).flatMap fun j => s.step (j + 1)
theorem PS.upto_succ (s : PS) (k : Nat) : s.upto (k + 1) = s.upto k ++ s.step (k + 1) := by simp [PS.upto, List.range_succ]
theorem dues_append (a b : List PC) : dues (a ++ b) = dues a ++ dues b := by simp [dues]
theorem PS.upto_le (s : PS) (k : Nat) : (s.upto k).length ≤ k := by
  induction k with
  | zero => simp [PS.upto]
  | succ k ih =>
    rw [PS.upto_succ, List.length_append]
    have : (s.step (k + 1)).length ≤ 1 := by unfold PS.step; split <;> simp
    omega

set_option maxRecDepth 100000 in
theorem all_spec (s : PS) (hs : s.ok) (b : Nat) (w : World) (hb : Blk w b s.enc 96) :
    Calls Try.prog 55 #[.pointer (some ⟨b, 0, none⟩)] w fun e w' => ∃ v, e = .returned v ∧ w'.ownsRow w.heap.size 33 3 v (s.upto s.lat).length (dues (s.upto s.lat)) ∧ Upd Non w w' := by
  obtain ⟨h0, hl, ht⟩ := id hs
  have hbl := hb.lt
  have h1 := hb.cell 64 (PS.enc_lat s)
  have HB := Lib.hid hb; clear hb
  have HS := Lib.hid hs; clear hs
  go_enter Try.func55, Try.ntmps55
  go_wp2_with (go_at_call 46; refine (made_spec s HS.out b _ (by ((with_reducible repeat' first | apply Blk.drew | apply Blk.drewN | apply Blk.alloc | apply Blk.set | refine Blk.set_ne ?_ ?_) <;> first | with_reducible exact HB.out | omega | (dsimp only; omega)))).mono ?_; rintro e w1 ⟨rfl, rfl⟩)
  go_loopw [2, 3] (fun v i wr => ∃ n : Nat, n ≤ s.lat ∧ i = .int .i64 (n + 1 : Nat) ∧ wr.ownsRow w.heap.size 33 3 v (s.upto n).length (dues (s.upto n)) ∧ Upd Non w wr) (fun _ i _ => s.lat + 1 - (intOf i).toNat)
  case atStart => exact ⟨0, by omega, rfl, World.ownsRow_nil .., Upd.refl _ _⟩
  case round =>
    obtain ⟨n, hn2, rfl, hown, hU⟩ := hrel
    have hB1 : Blk wr b s.enc 96 := Blk.upd hU HB.out id
    have h1' := hB1.cell 64 (PS.enc_lat s)
    have hsz := hU.size
    have hle := PS.upto_le s n
    clear h1
    by_cases hlt : n + 1 ≤ s.lat
    · obtain ⟨e0, e1, e2, e3⟩ := PS.enc_cell s (s.at_ (n + 1)) (PS.at_lt16 HS.out (n + 1))
      have c0 := hB1.cell _ e0
      have c1 := hB1.cell _ e1
      have c2 := hB1.cell _ e2
      have c3 := hB1.cell _ e3
      clear e0 e1 e2 e3
      cases hc : (s.cells (s.at_ (n + 1))).is
      all_goals
        rw [hc] at c0
        have HC := Lib.hid hc; clear hc
        have HB1 := Lib.hid hB1; clear hB1
        have HO := Lib.hid hown; clear hown
        have HU := Lib.hid hU; clear hU
        go_wp2_with (first | (go_at_call 48; refine (ahead_spec s HS.out b (n + 1) (by omega) _ (by ((with_reducible repeat' first | apply Blk.drew | apply Blk.drewN | apply Blk.alloc | apply Blk.set | refine Blk.set_ne ?_ ?_) <;> first | with_reducible exact HB1.out | omega | (dsimp only; omega)))).mono ?_; rintro e w1 ⟨rfl, m2, rfl⟩) | (at_builtin; go_must (refine wp_append (w0 := w) Non rfl _ _ 107 rfl w.heap.size 33 (.agg #[.int .i64 0, .int .u32 0, .int .i64 0]) 3 24 Try.underlying107 (by kernel_rfl) rfl (by decide) (by decide) u2 (s.upto n).length (dues (s.upto n)) rfl ?c1 wr.heap.size 1 1 #[.int .i64 (s.cells (s.at_ (n + 1))).wo, .int .u32 (s.cells (s.at_ (n + 1))).va, .int .i64 (s.cells (s.at_ (n + 1))).er] 33 rfl ?c2 rfl rfl ?c3 ?c4 (Nat.le_refl _) ?c5 ?_)))
      · go_roundw
        case rel =>
          refine ⟨n + 1, by omega, by go_num, ?_, HU.out.drewN⟩
          have h : s.upto (n + 1) = s.upto n := by rw [PS.upto_succ, PS.step, HC.out]; simp
          rw [h]; exact HO.out
        case measure => simp [intOf]; omega
      case c1 => exact HO.out.alloc _
      case c2 => ((with_reducible repeat' first | apply Blk.new | (refine Blk.newAt ?_; (simp; done)) | apply Blk.drew | apply Blk.drewN | apply Blk.alloc | apply Blk.set | refine Blk.set_ne ?_ ?_) <;> first | omega | (dsimp only; omega))
      case c3 => omega
      case c4 => exact HU.out.drewN.alloc
      case c5 => simp; omega
      intro v' w1 hown1 hU1 hg1
      have HU1 := Lib.hid hU1; clear hU1
      have HO1 := Lib.hid hown1; clear hown1
      clear hg1
      go_wp2
      go_roundw
      case rel =>
        refine ⟨n + 1, by omega, by go_num, ?_, HU1.out⟩
        have h : s.upto (n + 1) = s.upto n ++ [s.cells (s.at_ (n + 1))] := by rw [PS.upto_succ, PS.step, HC.out]; simp
        rw [h, dues_append, List.length_append]; exact HO1.out
      case measure => simp [intOf]; omega
    · have HO := Lib.hid hown; clear hown
      have HU := Lib.hid hU; clear hU
      go_wp2
      go_ret
      obtain rfl : n = s.lat := by omega
      exact ⟨_, rfl, HO.out, HU.out⟩

set_option maxRecDepth 100000 in
theorem len_spec (s : PS) (hs : s.ok) (b : Nat) (w : World) (hb : Blk w b s.enc 96) :
    Calls Try.prog 29 #[.pointer (some ⟨b, 0, none⟩)] w fun e w' => e = .returned (.int .i64 (s.upto s.lat).length) ∧ Upd Non w w' := by
  have HB := Lib.hid hb; clear hb
  have hlen := fun A n c w => len_slice (P := Try.prog) (ty := 3) Try.underlying107 A n c w
  go_enter Try.func29, Try.ntmps29
  go_wp2_with (go_at_call 55; refine (all_spec s hs b _ HB.out).mono ?_; rintro e w1 ⟨v, rfl, hown, hU⟩)
  obtain ⟨A, c, rfl⟩ := own_slice hown
  clear hown
  have HU := Lib.hid hU; clear hU
  go_wp2_with fail
  rw [hlen]
  go_wp2
  go_ret
  exact ⟨rfl, HU.out⟩
end Go.Proofs.Ytnmbkhofikbcjaa
