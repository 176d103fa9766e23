/- Whole numbers as floating point words: sums, products, comparisons and conversions of them are exact. Condition: below 2^53. -/
import Ieee.Arith
namespace Go.Proofs.Ytnmbkhofikbcjaa.Flt
open Ieee

/-- 1074, under a name (so that no power of it is reckoned). -/
def big : Nat := 1074
theorem big_eq : big = 1074 := rfl
attribute [irreducible] big
/-- The word x stands for the whole number n. -/
def Rep (x : Nat) (n : Int) : Prop := ∃ s m p, double.read x = .number s m p ∧ -1074 ≤ p ∧ (m = 0 ∨ -60 ≤ p) ∧ signed s m (p + 1074).toNat = n * 2 ^ big

theorem signed_eq (s : Bool) (m up : Nat) : signed s m up = if s then -((m : Int) * 2 ^ up) else (m : Int) * 2 ^ up := by
  unfold signed
  rw [Nat.shiftLeft_eq]
  split <;> push_cast <;> rfl
theorem two_pos (k : Nat) : (0 : Int) < 2 ^ k := Int.pow_pos (by decide)
theorem two_pos' (k : Nat) : 0 < 2 ^ k := Nat.pow_pos (by decide)

/-- A number whose mantissa is cut without a rest. -/
theorem cut_exact (way : Toward) (neg : Bool) (q drop : Nat) : way.cut neg (q * 2 ^ drop) drop = q := by
  unfold Toward.cut
  rcases Nat.eq_zero_or_pos q with rfl | hq
  · simp
    cases way <;> simp
  · have hn : q * 2 ^ drop ≠ 0 := Nat.mul_ne_zero (by omega) (Nat.ne_of_gt (two_pos' _))
    have hd : drop ≤ (q * 2 ^ drop).log2 := (Nat.le_log2 hn).2 (Nat.le_mul_of_pos_left _ hq)
    have hmin : min drop ((q * 2 ^ drop).log2 + 2) = drop := by omega
    have hgap : 1 <<< min drop ((q * 2 ^ drop).log2 + 2) = 2 ^ drop := by rw [hmin, Nat.shiftLeft_eq, Nat.one_mul]
    simp only [hgap]
    rw [Nat.mul_div_cancel _ (two_pos' drop), Nat.mul_mod_left]
    cases way <;> simp

theorem log2_shift {a k N j : Nat} (ha : a ≠ 0) (hN : N ≠ 0) (h : a * 2 ^ k = N * 2 ^ j) : a.log2 + k = N.log2 + j := by
  have h1 : (a * 2 ^ k).log2 = a.log2 + k := by
    rw [Nat.log2_eq_iff (Nat.mul_ne_zero ha (Nat.ne_of_gt (two_pos' _)))]
    have := (Nat.log2_eq_iff ha).1 rfl
    constructor
    · rw [Nat.pow_add]; exact Nat.mul_le_mul_right _ this.1
    · rw [show a.log2 + k + 1 = (a.log2 + 1) + k by omega, Nat.pow_add]; exact Nat.mul_lt_mul_of_pos_right this.2 (two_pos' _)
  have h2 : (N * 2 ^ j).log2 = N.log2 + j := by
    rw [Nat.log2_eq_iff (Nat.mul_ne_zero hN (Nat.ne_of_gt (two_pos' _)))]
    have := (Nat.log2_eq_iff hN).1 rfl
    constructor
    · rw [Nat.pow_add]; exact Nat.mul_le_mul_right _ this.1
    · rw [show N.log2 + j + 1 = (N.log2 + 1) + j by omega, Nat.pow_add]; exact Nat.mul_lt_mul_of_pos_right this.2 (two_pos' _)
  rw [← h1, ← h2, h]
theorem cancel2 {a b k : Nat} (h : a * 2 ^ k = b * 2 ^ k) : a = b := Nat.eq_of_mul_eq_mul_right (two_pos' k) h

/-- The nearest word of a number that is whole and below 2^53. -/
theorem nearest_exact (neg : Bool) (mag : Nat) (place : Int) (N : Nat) (h0 : 0 < N) (h1 : N < 2 ^ 53) (hp : -1074 ≤ place) (h : mag * 2 ^ (place + 1074).toNat = N * 2 ^ big) :
    double.nearest neg mag place = double.word neg ((N.log2 + 1022) * 2 ^ 52 + N * 2 ^ (52 - N.log2)) := by
  have hbig := big_eq
  have hmag : mag ≠ 0 := by
    rintro rfl
    have := Nat.mul_pos h0 (two_pos' big)
    rw [Nat.zero_mul] at h; omega
  have hlog := log2_shift hmag (by omega) h
  have hN := (Nat.log2_eq_iff (show N ≠ 0 by omega)).1 rfl
  have he : N.log2 ≤ 52 := by
    rcases Nat.lt_or_ge 52 N.log2 with hc | hc
    · have : 2 ^ 53 ≤ 2 ^ N.log2 := Nat.pow_le_pow_right (by decide) hc
      omega
    · exact hc
  obtain ⟨e, hee⟩ : ∃ e, e = N.log2 := ⟨_, rfl⟩
  rw [← hee] at hlog he hN ⊢
  have hpl : place + mag.log2 = e := by omega
  have hlast : max (place + mag.log2 - (double.fractionBits : Nat)) double.leastPlace = (e : Int) - 52 := by
    rw [hpl]; show max ((e : Int) - 52) (-1074) = _; omega
  have hkept : Toward.even.cut neg (mag <<< (place - ((e : Int) - 52)).toNat) (((e : Int) - 52) - place).toNat = N * 2 ^ (52 - e) := by
    rcases Int.le_total ((e : Int) - 52) place with hc | hc
    · rw [show ((e : Int) - 52 - place).toNat = 0 by omega, Nat.shiftLeft_eq]
      obtain ⟨d, hd⟩ : ∃ d, d = (place - ((e : Int) - 52)).toNat := ⟨_, rfl⟩
      rw [← hd]
      have h2 : mag * 2 ^ d = N * 2 ^ (52 - e) := by
        refine cancel2 (k := e + 1022) ?_
        rw [Nat.mul_assoc, Nat.mul_assoc, ← Nat.pow_add, ← Nat.pow_add, show 52 - e + (e + 1022) = big by omega, ← h, show d + (e + 1022) = (place + 1074).toNat by omega]
      rw [h2]
      have := cut_exact .even neg (N * 2 ^ (52 - e)) 0
      rwa [Nat.pow_zero, Nat.mul_one] at this
    · rw [show (place - ((e : Int) - 52)).toNat = 0 by omega, Nat.shiftLeft_eq, Nat.pow_zero, Nat.mul_one]
      obtain ⟨d, hd⟩ : ∃ d, d = ((e : Int) - 52 - place).toNat := ⟨_, rfl⟩
      rw [← hd]
      have h2 : mag = N * 2 ^ (52 - e) * 2 ^ d := by
        refine cancel2 (k := (place + 1074).toNat) ?_
        rw [h, Nat.mul_assoc, Nat.mul_assoc, ← Nat.pow_add, ← Nat.pow_add, show 52 - e + (d + (place + 1074).toNat) = big by omega]
      rw [h2]
      exact cut_exact ..
  have hK : N * 2 ^ (52 - e) < 2 ^ 53 := by
    calc N * 2 ^ (52 - e) < 2 ^ (e + 1) * 2 ^ (52 - e) := Nat.mul_lt_mul_of_pos_right hN.2 (two_pos' _)
      _ = 2 ^ 53 := by rw [← Nat.pow_add]; congr 1; omega
  unfold Format.nearest
  rw [if_neg hmag]
  simp only [hlast, hkept]
  have hle : (((e : Int) - 52 - double.leastPlace).toNat) = e + 1022 := by show ((e : Int) - 52 - (-1074)).toNat = _; omega
  rw [hle]
  congr 1
  show min ((e + 1022) * 2 ^ 52 + N * 2 ^ (52 - e)) (2047 * 2 ^ 52) = _
  rw [Nat.min_eq_left]
  omega

/-- What such a word reads as. -/
theorem read_word (neg : Bool) (e K : Nat) (he : e ≤ 52) (h0 : 2 ^ 52 ≤ K) (h1 : K < 2 ^ 53) : double.read (double.word neg ((e + 1022) * 2 ^ 52 + K)) = .number neg K ((e : Int) - 52) := by
  have hsw : double.signWeight = 9223372036854775808 := by decide
  have hbi : double.binade = 4503599627370496 := by decide
  have hir : double.infRung = 9218868437227405312 := by decide
  have hlp : double.leastPlace = -1074 := by decide
  have p52 : (2 : Nat) ^ 52 = 4503599627370496 := by decide
  have p53 : (2 : Nat) ^ 53 = 9007199254740992 := by decide
  rw [p52] at h0 ⊢
  rw [p53] at h1
  have hmod : double.word neg ((e + 1022) * 4503599627370496 + K) % double.signWeight = (e + 1022) * 4503599627370496 + K := by
    unfold Format.word; rw [hsw]; cases neg
    · rw [if_neg (by decide)]; omega
    · rw [if_pos rfl]; omega
  have hneg : (double.word neg ((e + 1022) * 4503599627370496 + K) / double.signWeight % 2 == 1) = neg := by
    unfold Format.word; rw [hsw]; cases neg
    · rw [if_neg (by decide), show ((e + 1022) * 4503599627370496 + K) / 9223372036854775808 = 0 by omega]; rfl
    · rw [if_pos rfl, show (9223372036854775808 + ((e + 1022) * 4503599627370496 + K)) / 9223372036854775808 = 1 by omega]; rfl
  unfold Format.read
  simp only [hmod, hneg, hbi, hir, hlp]
  rw [if_neg (by omega), if_pos (by omega)]
  congr 1
  · omega
  · omega
theorem read_zero (neg : Bool) : double.read (double.word neg 0) = .number neg 0 (-1074) := by cases neg <;> decide

/-- The nearest word of what is a whole number stands for it. -/
theorem rep_nearest (neg : Bool) (mag : Nat) (place : Int) (N : Nat) (h1 : N < 2 ^ 53) (hp : -1074 ≤ place) (h : mag * 2 ^ (place + 1074).toNat = N * 2 ^ big) :
    Rep (double.nearest neg mag place) (if neg then -(N : Int) else N) := by
  have hbig := big_eq
  rcases Nat.eq_zero_or_pos N with rfl | h0
  · have hm : mag = 0 := by
      rcases Nat.eq_zero_or_pos mag with h2 | h2
      · exact h2
      · have := Nat.mul_pos h2 (two_pos' (place + 1074).toNat)
        rw [h, Nat.zero_mul] at this; exact absurd this (Nat.lt_irrefl 0)
    subst hm
    refine ⟨neg, 0, -1074, ?_, by decide, .inl rfl, ?_⟩
    · unfold Format.nearest; rw [if_pos rfl]; exact read_zero neg
    · rw [signed_eq]; cases neg <;> simp
  · rw [nearest_exact neg mag place N h0 h1 hp h]
    have hN := (Nat.log2_eq_iff (show N ≠ 0 by omega)).1 rfl
    have he : N.log2 ≤ 52 := by
      rcases Nat.lt_or_ge 52 N.log2 with hc | hc
      · have : 2 ^ 53 ≤ 2 ^ N.log2 := Nat.pow_le_pow_right (by decide) hc
        omega
      · exact hc
    generalize N.log2 = e at *
    have hK : N * 2 ^ (52 - e) < 2 ^ 53 := by
      calc N * 2 ^ (52 - e) < 2 ^ (e + 1) * 2 ^ (52 - e) := Nat.mul_lt_mul_of_pos_right hN.2 (two_pos' _)
        _ = 2 ^ 53 := by rw [← Nat.pow_add]; congr 1; omega
    have hK0 : 2 ^ 52 ≤ N * 2 ^ (52 - e) := by
      calc 2 ^ 52 = 2 ^ e * 2 ^ (52 - e) := by rw [← Nat.pow_add]; congr 1; omega
        _ ≤ N * 2 ^ (52 - e) := Nat.mul_le_mul_right _ hN.1
    refine ⟨neg, _, _, read_word neg e _ he hK0 hK, by omega, .inr (by omega), ?_⟩
    have hv : (N * 2 ^ (52 - e)) * 2 ^ ((e : Int) - 52 + 1074).toNat = N * 2 ^ big := by
      rw [Nat.mul_assoc, ← Nat.pow_add, show 52 - e + ((e : Int) - 52 + 1074).toNat = big by omega]
    have hv' : ((N * 2 ^ (52 - e) : Nat) : Int) * 2 ^ ((e : Int) - 52 + 1074).toNat = (N : Int) * 2 ^ big := by
      have h9 := congrArg (fun q : Nat => (q : Int)) hv
      simp only [Int.natCast_mul, Int.natCast_pow] at h9
      simp only [Int.natCast_mul, Int.natCast_pow]
      exact h9
    rw [signed_eq, hv']
    cases neg <;> simp [Int.neg_mul]

/-- The word of a whole number. -/
def fl (n : Int) : Nat := double.nearest (decide (n < 0)) n.natAbs 0
theorem rep_fl (n : Int) (h : n.natAbs < 2 ^ 53) : Rep (fl n) n := by
  have := rep_nearest (decide (n < 0)) n.natAbs 0 n.natAbs h (by decide) (by rw [show ((0 : Int) + 1074).toNat = big from by rw [big_eq]; decide])
  have e : (if decide (n < 0) = true then -(n.natAbs : Int) else n.natAbs) = n := by
    by_cases hn : n < 0
    · rw [if_pos (by simpa using hn)]; omega
    · rw [if_neg (by simpa using hn)]; omega
  rwa [e] at this

theorem signed_scale (s : Bool) (m : Nat) (p base : Int) (h0 : -1074 ≤ base) (h : base ≤ p) : signed s m (p - base).toNat * 2 ^ (base + 1074).toNat = signed s m (p + 1074).toNat := by
  have e : (p - base).toNat + (base + 1074).toNat = (p + 1074).toNat := by omega
  have hpow : (2 : Int) ^ (p - base).toNat * 2 ^ (base + 1074).toNat = 2 ^ (p + 1074).toNat := by rw [← Int.pow_add, e]
  rw [signed_eq, signed_eq]
  cases s
  · simp only [Bool.false_eq_true, if_false]; rw [Int.mul_assoc, hpow]
  · simp only [if_true]; rw [Int.neg_mul, Int.mul_assoc, hpow]

theorem sum_rep {s t : Bool} {m n : Nat} {i j : Int} {a b : Int} (hi : -1074 ≤ i) (hj : -1074 ≤ j) (ha : signed s m (i + 1074).toNat = a * 2 ^ big) (hb : signed t n (j + 1074).toNat = b * 2 ^ big) (hab : (a + b).natAbs < 2 ^ 53) :
    ∃ d, (Datum.number s m i).sum (.number t n j) = some d ∧ Rep (double.write d) (a + b) := by
  refine ⟨_, rfl, ?_⟩
  obtain ⟨base, hbase⟩ : ∃ base, base = min i j := ⟨_, rfl⟩
  rw [← hbase]
  obtain ⟨T, hT⟩ : ∃ T, T = signed s m (i - base).toNat + signed t n (j - base).toNat := ⟨_, rfl⟩
  rw [← hT]
  have hTT : T * 2 ^ (base + 1074).toNat = (a + b) * 2 ^ big := by
    rw [hT, Int.add_mul, signed_scale s m i base (by omega) (by omega), signed_scale t n j base (by omega) (by omega), ha, hb, Int.add_mul]
  have hab' : T.natAbs * 2 ^ (base + 1074).toNat = (a + b).natAbs * 2 ^ big := by
    have := congrArg Int.natAbs hTT
    rw [Int.natAbs_mul, Int.natAbs_mul, Int.natAbs_pow, Int.natAbs_pow, show Int.natAbs 2 = 2 from rfl] at this
    exact this
  have hr := rep_nearest (if T = 0 then s && t else decide (T < 0)) T.natAbs base (a + b).natAbs hab (by omega) hab'
  have hsign : T < 0 ↔ a + b < 0 := by
    have p1 := two_pos (base + 1074).toNat
    have p2 := two_pos big
    constructor
    · intro h
      have : T * 2 ^ (base + 1074).toNat < 0 := Int.mul_neg_of_neg_of_pos h p1
      rw [hTT] at this
      rcases Int.lt_or_le (a + b) 0 with h3 | h3
      · exact h3
      · have := Int.mul_nonneg h3 (Int.le_of_lt p2); omega
    · intro h
      have : (a + b) * 2 ^ big < 0 := Int.mul_neg_of_neg_of_pos h p2
      rw [← hTT] at this
      rcases Int.lt_or_le T 0 with h3 | h3
      · exact h3
      · have := Int.mul_nonneg h3 (Int.le_of_lt p1); omega
  have hzero : T = 0 → a + b = 0 := by
    intro h
    rw [h, Int.zero_mul] at hTT
    rcases Int.mul_eq_zero.1 hTT.symm with h3 | h3
    · exact h3
    · have := two_pos big; omega
  show Rep (double.nearest (if T = 0 then s && t else decide (T < 0)) T.natAbs base) (a + b)
  by_cases hT0 : T = 0
  · rw [hzero hT0] at hr ⊢
    simpa using hr
  · rw [if_neg hT0] at hr ⊢
    have e : (if decide (T < 0) = true then -((a + b).natAbs : Int) else (a + b).natAbs) = a + b := by
      by_cases hn : T < 0
      · rw [if_pos (by simpa using hn)]; have := hsign.1 hn; omega
      · rw [if_neg (by simpa using hn)]; have : ¬ a + b < 0 := fun h => hn (hsign.2 h); omega
    rwa [e] at hr
theorem signed_not (s : Bool) (m k : Nat) : signed (!s) m k = - signed s m k := by
  rw [signed_eq, signed_eq]; cases s <;> simp
theorem add_rep {x y : Nat} {a b : Int} (hx : Rep x a) (hy : Rep y b) (h : (a + b).natAbs < 2 ^ 53) : ∃ z, double.add x y = some z ∧ Rep z (a + b) := by
  obtain ⟨s, m, i, h1, h2, _, h3⟩ := hx
  obtain ⟨t, n, j, g1, g2, _, g3⟩ := hy
  obtain ⟨d, hd, hr⟩ := sum_rep h2 g2 h3 g3 h
  exact ⟨_, by unfold Format.add; rw [h1, g1, hd]; rfl, hr⟩
theorem sub_rep {x y : Nat} {a b : Int} (hx : Rep x a) (hy : Rep y b) (h : (a - b).natAbs < 2 ^ 53) : ∃ z, double.sub x y = some z ∧ Rep z (a - b) := by
  obtain ⟨s, m, i, h1, h2, _, h3⟩ := hx
  obtain ⟨t, n, j, g1, g2, _, g3⟩ := hy
  obtain ⟨d, hd, hr⟩ := sum_rep (t := !t) (b := -b) h2 g2 h3 (by rw [signed_not, g3, Int.neg_mul]) (by rwa [← Int.sub_eq_add_neg])
  exact ⟨_, by unfold Format.sub; rw [h1, g1]; show ((Datum.number s m i).sum (.number (!t) n j)).map _ = _; rw [hd]; rfl, by rwa [Int.sub_eq_add_neg]⟩

theorem signed_abs (s : Bool) (m k : Nat) : (signed s m k).natAbs = m * 2 ^ k := by
  rw [signed_eq]
  have : ((m : Int) * 2 ^ k).natAbs = m * 2 ^ k := by rw [Int.natAbs_mul, Int.natAbs_pow]; rfl
  cases s
  · simpa using this
  · simpa [Int.natAbs_neg] using this
theorem abs_of {s : Bool} {m k : Nat} {a : Int} (h : signed s m k = a * 2 ^ big) : m * 2 ^ k = a.natAbs * 2 ^ big := by
  have := congrArg Int.natAbs h
  rw [signed_abs, Int.natAbs_mul, Int.natAbs_pow] at this
  exact this
theorem sign_of {s : Bool} {m k : Nat} {a : Int} (h : signed s m k = a * 2 ^ big) (ha : a ≠ 0) : (s = true ↔ a < 0) := by
  rw [signed_eq] at h
  have p2 := two_pos big
  have hm : (0 : Int) ≤ (m : Int) * 2 ^ k := Int.mul_nonneg (by omega) (Int.le_of_lt (two_pos k))
  cases s
  · simp only [Bool.false_eq_true, if_false] at h
    constructor
    · intro h0; cases h0
    · intro h0
      have := Int.mul_neg_of_neg_of_pos h0 p2
      omega
  · simp only [if_true] at h
    constructor
    · intro _
      rcases Int.lt_or_le a 0 with h3 | h3
      · exact h3
      · have := Int.mul_pos (show 0 < a by omega) p2
        omega
    · intro _; rfl
theorem zero_of {s : Bool} {m k : Nat} {a : Int} (h : signed s m k = a * 2 ^ big) : m = 0 ↔ a = 0 := by
  have h1 := abs_of h
  have p1 := two_pos' k
  have p2 := two_pos' big
  constructor
  · rintro rfl
    rw [Nat.zero_mul] at h1
    rcases Nat.mul_eq_zero.1 h1.symm with h3 | h3
    · omega
    · omega
  · rintro rfl
    rw [Int.natAbs_zero, Nat.zero_mul] at h1
    rcases Nat.mul_eq_zero.1 h1 with h3 | h3
    · exact h3
    · omega
theorem mul_rep {x y : Nat} {a b : Int} (hx : Rep x a) (hy : Rep y b) (h : (a * b).natAbs < 2 ^ 53) : ∃ z, double.mul x y = some z ∧ Rep z (a * b) := by
  obtain ⟨s, m, i, h1, h2, hp, h3⟩ := hx
  obtain ⟨t, n, j, g1, g2, gp, g3⟩ := hy
  have hbig := big_eq
  refine ⟨_, by unfold Format.mul; rw [h1, g1]; rfl, ?_⟩
  show Rep (double.nearest (s ^^ t) (m * n) (i + j)) (a * b)
  by_cases hz : m * n = 0
  · have hab : a * b = 0 := by
      rcases Nat.mul_eq_zero.1 hz with h0 | h0
      · rw [(zero_of h3).1 h0, Int.zero_mul]
      · rw [(zero_of g3).1 h0, Int.mul_zero]
    rw [hz, hab]
    have h9 := rep_nearest (s ^^ t) 0 0 0 (by decide) (by decide) (by rw [Nat.zero_mul, Nat.zero_mul])
    have h8 : double.nearest (s ^^ t) 0 (i + j) = double.nearest (s ^^ t) 0 0 := by unfold Format.nearest; rw [if_pos rfl, if_pos rfl]
    rw [h8]
    cases hst : (s ^^ t) <;> rw [hst] at h9 <;> exact h9
  · have hm : m ≠ 0 := fun h0 => hz (by rw [h0, Nat.zero_mul])
    have hn : n ≠ 0 := fun h0 => hz (by rw [h0, Nat.mul_zero])
    have ha : a ≠ 0 := fun h0 => hm ((zero_of h3).2 h0)
    have hb : b ≠ 0 := fun h0 => hn ((zero_of g3).2 h0)
    have hi : -60 ≤ i := hp.resolve_left hm
    have hj : -60 ≤ j := gp.resolve_left hn
    have e1 := abs_of h3
    have e2 := abs_of g3
    have e3 : m * n * 2 ^ (i + j + 1074).toNat = (a * b).natAbs * 2 ^ big := by
      refine cancel2 (k := big) ?_
      have e4 : m * n * 2 ^ (i + j + 1074).toNat * 2 ^ big = (m * 2 ^ (i + 1074).toNat) * (n * 2 ^ (j + 1074).toNat) := by
        rw [Nat.mul_assoc, ← Nat.pow_add, show (i + j + 1074).toNat + big = (i + 1074).toNat + (j + 1074).toNat by omega, Nat.pow_add]
        ac_rfl
      rw [e4, e1, e2, Int.natAbs_mul]
      ac_rfl
    have hr := rep_nearest (s ^^ t) (m * n) (i + j) (a * b).natAbs h (by omega) e3
    have e : (if (s ^^ t) = true then -((a * b).natAbs : Int) else (a * b).natAbs) = a * b := by
      have s1 := sign_of h3 ha
      have s2 := sign_of g3 hb
      rcases Int.lt_or_gt_of_ne ha with a1 | a1 <;> rcases Int.lt_or_gt_of_ne hb with b1 | b1
      · rw [s1.2 a1, s2.2 b1]; have := Int.mul_pos_of_neg_of_neg a1 b1; simp; omega
      · have t0 : t = false := by cases t; rfl; exact absurd (s2.1 rfl) (by omega)
        rw [s1.2 a1, t0]; have := Int.mul_neg_of_neg_of_pos a1 b1; simp; omega
      · have s0 : s = false := by cases s; rfl; exact absurd (s1.1 rfl) (by omega)
        rw [s0, s2.2 b1]; have := Int.mul_neg_of_pos_of_neg a1 b1; simp; omega
      · have t0 : t = false := by cases t; rfl; exact absurd (s2.1 rfl) (by omega)
        have s0 : s = false := by cases s; rfl; exact absurd (s1.1 rfl) (by omega)
        rw [s0, t0]; have := Int.mul_pos a1 b1; simp; omega
    rwa [e] at hr

/-- To a whole number, towards zero. -/
theorem toInt_rep {x : Nat} {a : Int} (hx : Rep x a) : (double.read x).toInt .zero = some a := by
  obtain ⟨s, m, p, h1, h2, hp, h3⟩ := hx
  have hbig := big_eq
  rw [h1]
  show some (signed s (Toward.zero.cut s (m <<< p.toNat) (-p).toNat) 0) = some a
  have hk : Toward.zero.cut s (m <<< p.toNat) (-p).toNat = a.natAbs := by
    have e1 := abs_of h3
    rw [Nat.shiftLeft_eq]
    have h4 : m * 2 ^ p.toNat = a.natAbs * 2 ^ (-p).toNat := by
      refine cancel2 (k := (p + 1074).toNat - p.toNat) ?_
      rw [Nat.mul_assoc, Nat.mul_assoc, ← Nat.pow_add, ← Nat.pow_add, show p.toNat + ((p + 1074).toNat - p.toNat) = (p + 1074).toNat by omega, e1, show (-p).toNat + ((p + 1074).toNat - p.toNat) = big by omega]
    rw [h4]; exact cut_exact ..
  rw [hk, signed_eq, Int.pow_zero, Int.mul_one]
  by_cases ha : a = 0
  · subst ha; cases s <;> simp
  · have s1 := sign_of h3 ha
    cases s
    · have : ¬ a < 0 := fun h => absurd (s1.2 h) (by decide)
      simp only [Bool.false_eq_true, if_false]; congr 1; omega
    · have := s1.1 rfl
      simp only [if_true]; congr 1; omega

/-- How two stand to each other. -/
theorem order_num {s t : Bool} {m n : Nat} {i j : Int} {a b : Int} (hi : -1074 ≤ i) (hj : -1074 ≤ j) (ha : signed s m (i + 1074).toNat = a * 2 ^ big) (hb : signed t n (j + 1074).toNat = b * 2 ^ big) :
    (Datum.number s m i).order (.number t n j) = some (compare a b) := by
  show some (compare (signed s m (i - min i j).toNat) (signed t n (j - min i j).toNat)) = _
  obtain ⟨base, hbase⟩ : ∃ base, base = min i j := ⟨_, rfl⟩
  rw [← hbase]
  have e1 := signed_scale s m i base (by omega) (by omega)
  have e2 := signed_scale t n j base (by omega) (by omega)
  rw [ha] at e1; rw [hb] at e2
  generalize signed s m (i - base).toNat = A at *
  generalize signed t n (j - base).toNat = B at *
  have p1 := two_pos (base + 1074).toNat
  have p2 := two_pos big
  congr 1
  rcases Int.lt_trichotomy a b with h | h | h
  · have h2 : A * 2 ^ (base + 1074).toNat < B * 2 ^ (base + 1074).toNat := by rw [e1, e2]; exact Int.mul_lt_mul_of_pos_right h p2
    have h3 : A < B := Int.lt_of_mul_lt_mul_right h2 (Int.le_of_lt p1)
    rw [Int.compare_eq_lt.2 h3, Int.compare_eq_lt.2 h]
  · subst h
    have h3 : A = B := Int.eq_of_mul_eq_mul_right (Int.ne_of_gt p1) (e1.trans e2.symm)
    rw [h3, Int.compare_eq_eq.2 rfl, Int.compare_eq_eq.2 rfl]
  · have h2 : B * 2 ^ (base + 1074).toNat < A * 2 ^ (base + 1074).toNat := by rw [e1, e2]; exact Int.mul_lt_mul_of_pos_right h p2
    have h3 : B < A := Int.lt_of_mul_lt_mul_right h2 (Int.le_of_lt p1)
    rw [Int.compare_eq_gt.2 h3, Int.compare_eq_gt.2 h]
theorem order_rep {x y : Nat} {a b : Int} (hx : Rep x a) (hy : Rep y b) : double.order x y = some (compare a b) := by
  obtain ⟨s, m, i, h1, h2, _, h3⟩ := hx
  obtain ⟨t, n, j, g1, g2, _, g3⟩ := hy
  unfold Format.order; rw [h1, g1]
  exact order_num h2 g2 h3 g3
end Go.Proofs.Ytnmbkhofikbcjaa.Flt
