/- Which floating point words are shorts: the program's own test, and what it finds. No condition. -/
import Derived.Test.YtnmbkhofikbcjaaFlt
namespace Go.Proofs.Ytnmbkhofikbcjaa.Flt
open Ieee

def geB (x : Nat) : Bool := double.order x (fl (-32768)) == some .gt || double.order x (fl (-32768)) == some .eq
def leB (x : Nat) : Bool := double.order x (fl 32767) == some .lt || double.order x (fl 32767) == some .eq
def trunc (x : Nat) : Int := ((double.read x).toInt .zero).getD 0
def mayB (x : Nat) : Bool := geB x && (leB x && (double.order x (fl (trunc x)) == some .eq))

theorem repLo : Rep (fl (-32768)) (-32768) := rep_fl _ (by decide)
theorem repHi : Rep (fl 32767) 32767 := rep_fl _ (by decide)

/-- A word that reads as a number: where its last digit lies, how many digits it has. -/
theorem read_number {x : Nat} {s : Bool} {m : Nat} {p : Int} (h : double.read x = .number s m p) : -1074 ≤ p ∧ m < 2 ^ 53 := by
  have hbi : double.binade = 2 ^ 52 := rfl
  have hlp : double.leastPlace = -1074 := rfl
  unfold Format.read at h
  simp only [hbi, hlp] at h
  split at h
  · injection h with h1 h2 h3
    constructor
    · omega
    · subst h2
      rename_i hr
      exact Nat.lt_of_lt_of_le hr (Nat.pow_le_pow_right (by decide) (by decide))
  · split at h
    · injection h with h1 h2 h3
      constructor
      · omega
      · subst h2
        have := Nat.mod_lt (x % double.signWeight) (show 0 < 2 ^ 52 from two_pos' 52)
        rw [show 2 ^ 53 = 2 ^ 52 + 2 ^ 52 from by rw [← Nat.two_mul, Nat.mul_comm, ← Nat.pow_succ]]
        omega
    · split at h <;> cases h

theorem order_sym (x y : Nat) : (double.order x y == some .eq) = (double.order y x == some .eq) := by
  unfold Format.order
  cases double.read x <;> cases double.read y <;> simp only [Datum.order]
  · rename_i s m i t n j
    rw [show min j i = min i j from by omega]
    generalize signed s m (i - min i j).toNat = A
    generalize signed t n (j - min i j).toNat = B
    rcases Int.lt_trichotomy A B with h | h | h
    · rw [Int.compare_eq_lt.2 h, Int.compare_eq_gt.2 h]; rfl
    · subst h; rfl
    · rw [Int.compare_eq_gt.2 h, Int.compare_eq_lt.2 h]; rfl
  · rename_i s m i t; cases t <;> rfl
  · rename_i s t n j; cases s <;> rfl
  · rename_i s t; cases s <;> cases t <;> rfl

theorem order_signs {s t : Bool} {m n : Nat} {p j : Int} {b : Int} (hp : -1074 ≤ p) (hj : -1074 ≤ j) (hb : signed t n (j + 1074).toNat = b * 2 ^ big) :
    ((Datum.number s m p).order (.number t n j) = some .lt ↔ signed s m (p + 1074).toNat < b * 2 ^ big) ∧
    ((Datum.number s m p).order (.number t n j) = some .eq ↔ signed s m (p + 1074).toNat = b * 2 ^ big) ∧
    ((Datum.number s m p).order (.number t n j) = some .gt ↔ b * 2 ^ big < signed s m (p + 1074).toNat) := by
  have hd : (Datum.number s m p).order (.number t n j) = some (compare (signed s m (p - min p j).toNat) (signed t n (j - min p j).toNat)) := rfl
  rw [hd]
  obtain ⟨base, hbase⟩ : ∃ base, base = min p j := ⟨_, rfl⟩
  rw [← hbase]
  have e1 := signed_scale s m p base (by omega) (by omega)
  have e2 := signed_scale t n j base (by omega) (by omega)
  rw [← hb, ← e1, ← e2]
  generalize signed s m (p - base).toNat = A
  generalize signed t n (j - base).toNat = B
  have p1 := two_pos (base + 1074).toNat
  refine ⟨?_, ?_, ?_⟩
  · rw [Option.some.injEq, Int.compare_eq_lt]
    exact ⟨fun h => Int.mul_lt_mul_of_pos_right h p1, fun h => Int.lt_of_mul_lt_mul_right h (Int.le_of_lt p1)⟩
  · rw [Option.some.injEq, Int.compare_eq_eq]
    exact ⟨fun h => by rw [h], fun h => Int.eq_of_mul_eq_mul_right (Int.ne_of_gt p1) h⟩
  · rw [Option.some.injEq, Int.compare_eq_gt]
    exact ⟨fun h => Int.mul_lt_mul_of_pos_right h p1, fun h => Int.lt_of_mul_lt_mul_right h (Int.le_of_lt p1)⟩

theorem cut_le (s : Bool) (m : Nat) (p : Int) (hp : -1074 ≤ p) : Toward.zero.cut s (m <<< p.toNat) (-p).toNat * 2 ^ big ≤ m * 2 ^ (p + 1074).toNat := by
  have hbig := big_eq
  unfold Toward.cut
  simp only [Bool.toNat_false, Nat.add_zero]
  rw [Nat.shiftLeft_eq, Nat.shiftLeft_eq, Nat.one_mul]
  obtain ⟨n, hn⟩ : ∃ n, n = m * 2 ^ p.toNat := ⟨_, rfl⟩
  rw [← hn]
  have key : m * 2 ^ (p + 1074).toNat = n * 2 ^ ((p + 1074).toNat - p.toNat) := by
    rw [hn, Nat.mul_assoc, ← Nat.pow_add, show p.toNat + ((p + 1074).toNat - p.toNat) = (p + 1074).toNat by omega]
  rw [key]
  rcases Nat.le_total (-p).toNat (n.log2 + 2) with h | h
  · rw [Nat.min_eq_left h]
    have h2 : n / 2 ^ (-p).toNat * 2 ^ (-p).toNat ≤ n := Nat.div_mul_le_self _ _
    calc n / 2 ^ (-p).toNat * 2 ^ big = n / 2 ^ (-p).toNat * 2 ^ (-p).toNat * 2 ^ ((p + 1074).toNat - p.toNat) := by
          rw [Nat.mul_assoc, ← Nat.pow_add, show (-p).toNat + ((p + 1074).toNat - p.toNat) = big by omega]
      _ ≤ _ := Nat.mul_le_mul_right _ h2
  · rw [Nat.min_eq_right h]
    have hlt : n < 2 ^ (n.log2 + 2) := by
      rcases Nat.eq_zero_or_pos n with rfl | hn0
      · exact two_pos' _
      · exact Nat.lt_of_lt_of_le ((Nat.log2_eq_iff (by omega)).1 rfl).2 (Nat.pow_le_pow_right (by decide) (by omega))
    rw [Nat.div_eq_of_lt hlt, Nat.zero_mul]
    exact Nat.zero_le _

theorem may_range {x : Nat} (h1 : geB x = true) (h2 : leB x = true) :
    ∃ s m p, double.read x = .number s m p ∧ (double.read x).toInt .zero = some (trunc x) ∧ -32768 ≤ trunc x ∧ trunc x ≤ 32767 := by
  obtain ⟨t, n, j, l1, l2, _, l3⟩ := repLo
  obtain ⟨t', n', j', g1, g2, _, g3⟩ := repHi
  unfold geB Format.order at h1
  unfold leB Format.order at h2
  rw [l1] at h1
  rw [g1] at h2
  cases hr : double.read x with
  | nan a b => rw [hr] at h1; simp [Datum.order] at h1
  | infinity a =>
    rw [hr] at h1 h2
    cases a <;> simp [Datum.order] at h1 h2
  | number s m p =>
    rw [hr] at h1 h2
    obtain ⟨hp, _⟩ := read_number hr
    have o1 := order_signs (s := s) (m := m) (p := p) hp l2 l3
    have o2 := order_signs (s := s) (m := m) (p := p) hp g2 g3
    have b1 : -32768 * 2 ^ big ≤ signed s m (p + 1074).toNat := by
      simp only [Bool.or_eq_true, beq_iff_eq] at h1
      rcases h1 with h | h
      · exact Int.le_of_lt (o1.2.2.1 h)
      · exact Int.le_of_eq (o1.2.1.1 h).symm
    have b2 : signed s m (p + 1074).toNat ≤ 32767 * 2 ^ big := by
      simp only [Bool.or_eq_true, beq_iff_eq] at h2
      rcases h2 with h | h
      · exact Int.le_of_lt (o2.1.1 h)
      · exact Int.le_of_eq (o2.2.1.1 h)
    have ht : trunc x = signed s (Toward.zero.cut s (m <<< p.toNat) (-p).toNat) 0 := by unfold trunc; rw [hr]; rfl
    have hi : (Datum.number s m p).toInt .zero = some (signed s (Toward.zero.cut s (m <<< p.toNat) (-p).toNat) 0) := rfl
    refine ⟨s, m, p, rfl, by rw [hi, ht], ?_⟩
    rw [ht]
    have hc := cut_le s m p hp
    generalize Toward.zero.cut s (m <<< p.toNat) (-p).toNat = q at *
    have hc' : (q : Int) * 2 ^ big ≤ (m : Int) * 2 ^ (p + 1074).toNat := by
      have h9 := Int.ofNat_le.2 hc
      simp only [Int.natCast_mul, Int.natCast_pow] at h9
      exact h9
    have p2 := two_pos big
    rw [signed_eq] at b1 b2 ⊢
    rw [Int.pow_zero, Int.mul_one]
    cases s
    · simp only [Bool.false_eq_true, if_false] at b2 ⊢
      have : (q : Int) ≤ 32767 := Int.le_of_mul_le_mul_right (Int.le_trans hc' b2) p2
      omega
    · simp only [if_true] at b1 ⊢
      have : (q : Int) * 2 ^ big ≤ 32768 * 2 ^ big := by
        rw [Int.neg_mul] at b1
        omega
      have := Int.le_of_mul_le_mul_right this p2
      omega

/-- What the test lets through is a short. -/
theorem ok_of_may {x : Nat} (h : mayB x = true) : Rep x (trunc x) ∧ -32768 ≤ trunc x ∧ trunc x ≤ 32767 := by
  unfold mayB at h
  simp only [Bool.and_eq_true] at h
  obtain ⟨h1, h2, h3⟩ := h
  obtain ⟨s, m, p, hr, _, r1, r2⟩ := may_range h1 h2
  refine ⟨?_, r1, r2⟩
  obtain ⟨hp, hm⟩ := read_number hr
  obtain ⟨t, n, j, l1, l2, _, l3⟩ := rep_fl (trunc x) (by omega)
  unfold Format.order at h3
  rw [hr, l1, beq_iff_eq] at h3
  have hX := (order_signs (s := s) (m := m) (p := p) hp l2 l3).2.1.1 h3
  refine ⟨s, m, p, hr, hp, ?_, hX⟩
  rcases Nat.eq_zero_or_pos m with h0 | h0
  · exact .inl h0
  · right
    have ha := abs_of hX
    rcases Int.lt_or_le p (-60) with hc | hc
    · exfalso
      have hn : trunc x ≠ 0 := fun h => by rw [(zero_of hX).2 h] at h0; omega
      have e1 : 2 ^ big ≤ m * 2 ^ (p + 1074).toNat := by rw [ha]; exact Nat.le_mul_of_pos_left _ (by omega)
      have e2 : m * 2 ^ (p + 1074).toNat < 2 ^ 53 * 2 ^ (p + 1074).toNat := Nat.mul_lt_mul_of_pos_right hm (two_pos' _)
      rw [← Nat.pow_add] at e2
      have e3 : 2 ^ (53 + (p + 1074).toNat) ≤ 2 ^ big := Nat.pow_le_pow_right (by decide) (by have := big_eq; omega)
      exact absurd (Nat.lt_of_le_of_lt e1 e2) (Nat.not_lt.2 e3)
    · exact hc
theorem trunc_rep {x : Nat} {n : Int} (h : Rep x n) : trunc x = n := by unfold trunc; rw [toInt_rep h]; rfl
theorem may_of_ok {x : Nat} {n : Int} (h : Rep x n) (h1 : -32768 ≤ n) (h2 : n ≤ 32767) : geB x = true ∧ leB x = true ∧ mayB x = true := by
  have g : geB x = true := by
    unfold geB; rw [order_rep h repLo]
    rcases Int.lt_or_eq_of_le h1 with h3 | h3
    · rw [Int.compare_eq_gt.2 h3]; rfl
    · rw [Int.compare_eq_eq.2 h3.symm]; rfl
  have l : leB x = true := by
    unfold leB; rw [order_rep h repHi]
    rcases Int.lt_or_eq_of_le h2 with h3 | h3
    · rw [Int.compare_eq_lt.2 h3]; rfl
    · rw [Int.compare_eq_eq.2 h3]; rfl
  refine ⟨g, l, ?_⟩
  unfold mayB
  rw [g, l, trunc_rep h, order_rep h (rep_fl n (by omega)), Int.compare_eq_eq.2 rfl]
  rfl
end Go.Proofs.Ytnmbkhofikbcjaa.Flt
