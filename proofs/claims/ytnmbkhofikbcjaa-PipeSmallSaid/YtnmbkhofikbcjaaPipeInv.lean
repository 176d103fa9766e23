/- The pipe, cycle by cycle: what is in its cells hangs on what was put, so many cycles ago. No condition. -/
import Derived.Test.YtnmbkhofikbcjaaPipeModel
namespace Go.Proofs.Ytnmbkhofikbcjaa

def PS.tick' (s : PS) : PS := { s.on with began := true }
/-- In t cycles: in the cell that comes out in cycle u lies 'out u'. -/
structure PInv (L : Nat) (out : Nat → PC) (t : Nat) (s : PS) : Prop where
  lat : s.lat = L
  now : s.now = t % L
  cell : ∀ u, t ≤ u → u < t + L → s.cells ((u + 1) % L) = out u

theorem mod_ne {lat a b : Nat} (_h0 : 0 < lat) (h1 : a < b) (h2 : b < a + lat) : a % lat ≠ b % lat := by
  intro h
  have h3 := Nat.sub_mod_eq_zero_of_mod_eq h.symm
  rw [Nat.mod_eq_of_lt (by omega)] at h3
  omega

theorem PInv.fresh {lat : Nat} {out : Nat → PC} (h : ∀ u, u < lat → out u = PC.no) : PInv lat out 0 (PS.fresh lat) :=
  ⟨rfl, by simp [PS.fresh], fun u _ hu => (h u (by omega)).symm⟩
theorem PInv.ok {lat t : Nat} {out : Nat → PC} {s : PS} (h : PInv lat out t s) (h0 : 0 < lat) (h1 : lat ≤ 16) : s.ok :=
  ⟨by rw [h.lat]; exact h0, by rw [h.lat]; exact h1, by rw [h.lat, h.now]; exact Nat.mod_lt _ h0⟩
theorem PInv.next {lat t : Nat} {out : Nat → PC} {s : PS} (h : PInv lat out t s) : s.next = (t + 1) % lat := by
  unfold PS.next; rw [h.lat, h.now, Nat.mod_add_mod]
theorem PInv.out {lat t : Nat} {out : Nat → PC} {s : PS} (h : PInv lat out t s) (h0 : 0 < lat) : s.cells s.next = out t := by
  rw [h.next]; exact h.cell t (Nat.le_refl _) (by omega)
theorem PInv.tick_now {lat t : Nat} {out : Nat → PC} {s : PS} (h : PInv lat out t s) : s.tick'.now = (t + 1) % lat := h.next
theorem PS.tick_clear (s : PS) : s.tick'.cells s.tick'.now = PC.no := by simp [PS.tick', PS.on, PS.put]
theorem PInv.step {lat t : Nat} {out : Nat → PC} {s : PS} (h : PInv lat out t s) (h0 : 0 < lat) (ho : out (t + lat) = PC.no) : PInv lat out (t + 1) s.tick' := by
  refine ⟨h.lat, h.next, fun u hu1 hu2 => ?_⟩
  by_cases hu : u = t + lat
  · subst hu
    have : (t + lat + 1) % lat = s.tick'.now := by rw [h.tick_now, show t + lat + 1 = t + 1 + lat by omega, Nat.add_mod_right]
    rw [this, PS.tick_clear, ho]
  · have hne : (u + 1) % lat ≠ s.next := by rw [h.next]; exact (mod_ne h0 (by omega) (by omega)).symm
    show (if (u + 1) % lat = s.next then PC.no else s.cells ((u + 1) % lat)) = out u
    rw [if_neg hne]; exact h.cell u (by omega) (by omega)
theorem PInv.step_put {lat t : Nat} {out : Nat → PC} {s : PS} (h : PInv lat out t s) (h0 : 0 < lat) (c : PC) (ho : out (t + lat) = c) : PInv lat out (t + 1) (s.tick'.put s.tick'.now c) := by
  refine ⟨h.lat, h.next, fun u hu1 hu2 => ?_⟩
  by_cases hu : u = t + lat
  · subst hu
    have : (t + lat + 1) % lat = s.tick'.now := by rw [h.tick_now, show t + lat + 1 = t + 1 + lat by omega, Nat.add_mod_right]
    rw [this, ho]; simp [PS.put]
  · have hne : (u + 1) % lat ≠ s.next := by rw [h.next]; exact (mod_ne h0 (by omega) (by omega)).symm
    show (if (u + 1) % lat = s.next then c else if (u + 1) % lat = s.next then PC.no else s.cells ((u + 1) % lat)) = out u
    rw [if_neg hne, if_neg hne]; exact h.cell u (by omega) (by omega)

/-- What comes out in cycle u, where in cycle v 'what v' is put, if 'P v'. -/
def outOf (lat : Nat) (P : Nat → Bool) (what : Nat → PC) (u : Nat) : PC := if lat ≤ u ∧ P (u - lat) = true then what (u - lat) else PC.no
theorem outOf_early {lat : Nat} {P : Nat → Bool} {what : Nat → PC} {u : Nat} (h : u < lat) : outOf lat P what u = PC.no := by
  unfold outOf; rw [if_neg (by omega)]
theorem outOf_late {lat t : Nat} {P : Nat → Bool} {what : Nat → PC} : outOf lat P what (t + lat) = if P t = true then what t else PC.no := by
  unfold outOf; rw [Nat.add_sub_cancel]; simp
end Go.Proofs.Ytnmbkhofikbcjaa
