/- The contract of the fifo's Copy. Conditions: the fifo is one whose blocks are known, of at most 2000 things. -/
import Derived.Test.YtmblplhehbdocaaFifoSAny
namespace Go.Proofs.Ytmblplhehbdocaa
namespace S
open Go.RowKit

theorem put_is {b m g : Nat} {xs : List ByteArray} (v : ByteArray) (r : Bool) (ys : List ByteArray) (hn : xs.length ≤ 2000) (hr : decide (xs.length < m) = r) (hy : (if xs.length < m then xs ++ [v] else xs) = ys) (w : World) (h : FI w b xs m g) :
    Calls Try.prog 51 #[.pointer (some ⟨b, 0, none⟩), .string v] w fun e w' => e = .returned (.bool r) ∧ (∃ g', (g' = g ∨ w.heap.size ≤ g') ∧ FI w' b ys m g') ∧ Upd (fun i => i = b ∨ i = g) w w' := by
  rw [← hr, ← hy]; exact put_any05 v hn w h
theorem take_is {b m g : Nat} {xs : List ByteArray} (v : ByteArray) (r : Bool) (ys : List ByteArray) (h1 : headI xs = v) (h2 : someI xs = r) (h3 : xs.tail = ys) (w : World) (h : FI w b xs m g) :
    Calls Try.prog 53 #[.pointer (some ⟨b, 0, none⟩)] w fun e w' => e = .returned (.tuple #[.string v, .bool r]) ∧ FI w' b ys m g ∧ Upd (fun i => i = b) w w' := by
  rw [← h1, ← h2, ← h3]; exact take_any05 w h
theorem nth_is {b m g : Nat} {xs : List ByteArray} (n : Nat) (v : ByteArray) (hv : xs[n]? = some v) (w : World) (h : FI w b xs m g) :
    Calls Try.prog 86 #[.pointer (some ⟨b, 0, none⟩), .int .i64 n] w fun e w' => e = .returned (.tuple #[.string v, .bool true]) ∧ ∃ k, w' = w.drewN k := by
  obtain ⟨s, h, ok, rfl, rfl, h3⟩ := h
  exact nth_spec s b n v ok hv w h
theorem there_any {b m g : Nat} {xs : List ByteArray} (w : World) (h : FI w b xs m g) : Calls Try.prog 88 #[.pointer (some ⟨b, 0, none⟩)] w fun e w' => e = .returned (.bool true) ∧ w = w' := by
  obtain ⟨s, h, ok, rfl, rfl, h3⟩ := h
  exact there_spec s b w h
theorem FI.c2 {w : World} {b m g : Nat} {xs : List ByteArray} (h : FI w b xs m g) : w.cell? ⟨b, 2, none⟩ = some (.int .i64 xs.length) := by
  obtain ⟨s, h, ok, rfl, rfl, h3⟩ := h
  exact h.c2
theorem FI.c3 {w : World} {b m g : Nat} {xs : List ByteArray} (h : FI w b xs m g) : w.cell? ⟨b, 3, none⟩ = some (.int .i64 m) := by
  obtain ⟨s, h, ok, rfl, rfl, h3⟩ := h
  exact h.c3
theorem FI.drewN {w : World} {b m g n : Nat} {xs : List ByteArray} (h : FI w b xs m g) : FI (w.drewN n) b xs m g := h
set_option maxRecDepth 100000 in
set_option maxHeartbeats 8000000 in
theorem copy_any {b m g : Nat} {xs : List ByteArray} (hn : xs.length ≤ 2000) (w : World) (h : FI w b xs m g) :
    Calls Try.prog 85 #[.pointer (some ⟨b, 0, none⟩)] w fun e w' => e = .returned (.pointer (some ⟨w.heap.size, 0, none⟩)) ∧ (∃ g', w.heap.size ≤ g' ∧ FI w' w.heap.size xs m g') ∧ Upd Non w w' := by
  have HF := Lib.hid h
  have c3 := h.c3
  have hle := Lib.hid h.le
  have hlt := h.lt
  clear h
  go_enter Try.func85, Try.ntmps85
  go_wp2_with (go_at_call 88; refine (there_any _ HF.out).mono ?_; rintro e w1 ⟨rfl, rfl⟩)
  refine (new_any m hle.out.2.2 _).mono ?_
  rintro e w2 ⟨rfl, hC, U⟩
  have HU2 := Lib.hid U
  obtain ⟨c, hc⟩ : ∃ x, x = w.heap.size := ⟨_, rfl⟩
  have HCC := Lib.hid hc
  rw [← hc] at hC ⊢
  have HC2 := Lib.hid hC
  have HF2 := Lib.hid (FI.non U HF.out)
  have hcw : w.heap.size ≤ c := by omega
  have c2 := HF2.out.c2
  clear hC U hc c3
  go_wp2_with fail
  clear c2
  go_loopw [20] (fun i wr => ∃ t g' : Nat, t ≤ xs.length ∧ i = .int .i64 t ∧ FI wr c (xs.take t) m g' ∧ w.heap.size ≤ g' ∧ Upd Non w wr) (fun i _ => xs.length - (intOf i).toNat)
  case atStart => exact ⟨0, c, Nat.zero_le _, rfl, by rw [List.take_zero]; exact HC2.out, hcw, HU2.out⟩
  case round =>
    clear HC2 HF2 HU2
    obtain ⟨t, g', ht, rfl, hC, hg, hU⟩ := hrel
    have HC := Lib.hid hC
    have HU := Lib.hid hU
    have HF2 := Lib.hid (FI.non hU HF.out)
    clear hC hU
    by_cases hlt' : t < xs.length
    · have k1 : (t : Int) < xs.length := by omega
      obtain ⟨v, hv⟩ : ∃ v, xs[t]? = some v := ⟨_, List.getElem?_eq_getElem hlt'⟩
      have HV := Lib.hid hv
      have HT := Lib.hid (show xs.take (t + 1) = xs.take t ++ [v] by rw [List.take_add_one, hv]; rfl)
      have HL := Lib.hid (show (xs.take t).length = t by rw [List.length_take]; omega)
      clear hv
      go_wp2_with fail
      refine (nth_is t v HV.out _ HF2.out).mono ?_
      rintro e w3 ⟨rfl, k, rfl⟩
      go_wp2_with fail
      refine (put_is v true (xs.take (t + 1)) (by rw [HL.out]; omega) (by rw [HL.out]; have := hle.out.1; exact decide_eq_true (by omega)) (by rw [HL.out, if_pos (by have := hle.out.1; omega), HT.out]) _ HC.out.drewN).mono ?_
      rintro e w4 ⟨rfl, ⟨g4, hgg, hC⟩, U⟩
      have hz := HU.out.size
      have HC4 := Lib.hid hC
      have HU4 := Lib.hid (by have h := HU.out; ((with_reducible repeat' first | exact Upd.refl _ _ | apply Upd.drew | apply Upd.drewN | apply Upd.alloc | refine Upd.setCell ?_ ?_ | refine Upd.call U ?_ ?_ | refine Upd.call h ?_ ?_) <;> first | (intro _ _ h; exact h) | (intro _ _ h; exact h.elim) | (intro i h1 h2; exfalso; (try simp only at h2); omega) | (left; rfl) | (right; dsimp only; omega) | (right; omega)) : Upd Non w w4)
      have hg4 : w.heap.size ≤ g4 := by
        rcases hgg with e | e
        · omega
        · have e' : wr.heap.size ≤ g4 := e
          omega
      clear hC U hgg
      go_wp2_with fail
      go_roundw
      case rel => exact ⟨t + 1, g4, by omega, by go_num, HC4.out, hg4, HU4.out⟩
      case measure => simp [intOf]; omega
    · have k1 : ¬ (t : Int) < xs.length := by omega
      have HT := Lib.hid (show xs.take t = xs from List.take_of_length_le (by omega))
      go_wp2_with fail
      go_ret
      rw [← HCC.out]
      exact ⟨rfl, ⟨g', by have := HCC.out; omega, by have := HC.out; rwa [HT.out] at this⟩, HU.out⟩
end S
end Go.Proofs.Ytmblplhehbdocaa
