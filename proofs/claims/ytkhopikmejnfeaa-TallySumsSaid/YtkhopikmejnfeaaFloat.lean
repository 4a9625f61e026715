import Derived.Laws.FloatArith
import Derived.Laws.ComplexArith
namespace Fl
set_option linter.unusedVariables false
open Go Ieee

theorem log2_eq {n L : Nat} (h1 : 2 ^ L ≤ n) (h2 : n < 2 ^ (L + 1)) : n.log2 = L := by
  have h0 : n ≠ 0 := by have := Nat.two_pow_pos L; omega
  have a := (Nat.le_log2 h0).2 h1
  have b := (Nat.log2_lt h0).2 h2
  omega

theorem log2_mul_pow {n : Nat} (k : Nat) (hn : n ≠ 0) : (n * 2 ^ k).log2 = n.log2 + k := by
  have a := Nat.log2_self_le hn
  have b := @Nat.lt_log2_self n
  refine log2_eq ?_ ?_
  · rw [Nat.pow_add]; exact Nat.mul_le_mul_right _ a
  · have e : 2 ^ (n.log2 + k + 1) = 2 ^ (n.log2 + 1) * 2 ^ k := by rw [← Nat.pow_add]; congr 1; omega
    rw [e]; exact Nat.mul_lt_mul_of_pos_right b (Nat.two_pow_pos k)

theorem cut_zero (neg : Bool) (n : Nat) : Toward.even.cut neg n 0 = n := by
  simp [Toward.cut, Nat.mod_one]

/-- The cut of a multiple of the gap. -/
theorem cut_exact (neg : Bool) (n k : Nat) (hn : n ≠ 0) : Toward.even.cut neg (n * 2 ^ k) k = n := by
  have hl := log2_mul_pow k hn
  have hm : min k ((n * 2 ^ k).log2 + 2) = k := by rw [hl]; omega
  have hd : n * 2 ^ k / 2 ^ k = n := Nat.mul_div_cancel _ (Nat.two_pow_pos k)
  have hp := Nat.two_pow_pos k
  simp [Toward.cut, hm, Nat.one_shiftLeft, hd]

theorem cut_le (neg : Bool) (n k : Nat) : Toward.even.cut neg n k ≤ n / 2 ^ (min k (n.log2 + 2)) + 1 := by
  simp only [Toward.cut, Nat.one_shiftLeft]
  have : ∀ b : Bool, b.toNat ≤ 1 := by decide
  exact Nat.add_le_add_left (this _) _
theorem le_cut (neg : Bool) (n k : Nat) : n / 2 ^ (min k (n.log2 + 2)) ≤ Toward.even.cut neg n k := by
  simp only [Toward.cut, Nat.one_shiftLeft]
  exact Nat.le_add_right _ _

abbrev D : Format := double
theorem binade_eq : D.binade = 4503599627370496 := by decide +kernel
theorem infRung_eq : D.infRung = 9218868437227405312 := by decide +kernel
theorem sign_eq : D.signWeight = 9223372036854775808 := by decide +kernel
theorem least_eq : D.leastPlace = -1074 := by decide +kernel
theorem frac_eq : D.fractionBits = 52 := rfl

/-- The word nearest to a whole number of at most 53 digits, over a lower place. -/
def rungOf (m : Nat) : Nat := (m.log2 + 1022) * 4503599627370496 + m * 2 ^ (52 - m.log2)
theorem nearest_small (neg : Bool) (m k : Nat) (h0 : m ≠ 0) (hm : m < 2 ^ 53) (hk : k ≤ 1074) :
    D.nearest neg (m * 2 ^ k) (-(k : Int)) = D.word neg (rungOf m) := by
  unfold rungOf
  have hL : m.log2 < 53 := (Nat.log2_lt h0).2 hm
  have hmk : m * 2 ^ k ≠ 0 := by have := Nat.mul_pos (Nat.pos_of_ne_zero h0) (Nat.two_pow_pos k); omega
  have hl := log2_mul_pow k h0
  have hlast : max (-(k : Int) + ((m * 2 ^ k).log2 : Nat) - (D.fractionBits : Nat)) D.leastPlace = (m.log2 : Int) - 52 := by
    rw [hl, least_eq, frac_eq]; omega
  have hkept : Toward.even.cut neg ((m * 2 ^ k) <<< (-(k : Int) - ((m.log2 : Int) - 52)).toNat) ((m.log2 : Int) - 52 - (-(k : Int))).toNat = m * 2 ^ (52 - m.log2) := by
    rcases Nat.lt_or_ge (52 - m.log2) k with h | h
    · have e1 : (-(k : Int) - ((m.log2 : Int) - 52)).toNat = 0 := by omega
      have e2 : ((m.log2 : Int) - 52 - (-(k : Int))).toNat = k - (52 - m.log2) := by omega
      rw [e1, e2]
      have e3 : m * 2 ^ k = (m * 2 ^ (52 - m.log2)) * 2 ^ (k - (52 - m.log2)) := by
        rw [Nat.mul_assoc, ← Nat.pow_add]; congr 2; omega
      rw [Nat.shiftLeft_zero, e3]
      exact cut_exact _ _ _ (by have := Nat.mul_pos (Nat.pos_of_ne_zero h0) (Nat.two_pow_pos (52 - m.log2)); omega)
    · have e1 : (-(k : Int) - ((m.log2 : Int) - 52)).toNat = 52 - m.log2 - k := by omega
      have e2 : ((m.log2 : Int) - 52 - (-(k : Int))).toNat = 0 := by omega
      rw [e1, e2, cut_zero, Nat.shiftLeft_eq, Nat.mul_assoc, ← Nat.pow_add]
      congr 2; omega
  unfold Format.nearest
  rw [if_neg hmk]
  simp only [hlast, hkept]
  have hlo : m * 2 ^ (52 - m.log2) < 2 ^ 53 := by
    have b := @Nat.lt_log2_self m
    have : m * 2 ^ (52 - m.log2) < 2 ^ (m.log2 + 1) * 2 ^ (52 - m.log2) := Nat.mul_lt_mul_of_pos_right b (Nat.two_pow_pos _)
    rw [← Nat.pow_add] at this
    have e : m.log2 + 1 + (52 - m.log2) = 53 := by omega
    rwa [e] at this
  have e4 : ((m.log2 : Int) - 52 - D.leastPlace).toNat = m.log2 + 1022 := by rw [least_eq]; omega
  rw [e4, infRung_eq, binade_eq]
  congr 1
  have : (2:Nat) ^ 53 = 9007199254740992 := by decide
  rw [this] at hlo
  rw [Nat.min_eq_left]
  omega

theorem kept_bounds (m : Nat) (h0 : m ≠ 0) (hm : m < 2 ^ 53) : 4503599627370496 ≤ m * 2 ^ (52 - m.log2) ∧ m * 2 ^ (52 - m.log2) < 9007199254740992 := by
  have hL : m.log2 < 53 := (Nat.log2_lt h0).2 hm
  have a := Nat.log2_self_le h0
  have b := @Nat.lt_log2_self m
  have e : m.log2 + 1 + (52 - m.log2) = 53 := by omega
  have e' : m.log2 + (52 - m.log2) = 52 := by omega
  constructor
  · have : 2 ^ m.log2 * 2 ^ (52 - m.log2) ≤ m * 2 ^ (52 - m.log2) := Nat.mul_le_mul_right _ a
    rw [← Nat.pow_add, e'] at this
    simpa using this
  · have : m * 2 ^ (52 - m.log2) < 2 ^ (m.log2 + 1) * 2 ^ (52 - m.log2) := Nat.mul_lt_mul_of_pos_right b (Nat.two_pow_pos _)
    rw [← Nat.pow_add, e] at this
    simpa using this

theorem read_word (neg : Bool) (E r : Nat) (hr : r < 4503599627370496) (hE : E < 2046) :
    D.read (D.word neg ((E + 1) * 4503599627370496 + r)) = .number neg (4503599627370496 + r) (-1074 + (E : Nat)) := by
  unfold Format.read Format.word
  rw [sign_eq, binade_eq, infRung_eq, least_eq]
  have e1 : ((E + 1) * 4503599627370496 + r) / 4503599627370496 = E + 1 := by omega
  have e2 : ((E + 1) * 4503599627370496 + r) % 4503599627370496 = r := by omega
  have e3 : ((E + 1) * 4503599627370496 + r) < 9218868437227405312 := by omega
  cases neg
  · have e4 : ((E + 1) * 4503599627370496 + r) / 9223372036854775808 % 2 = 0 := by omega
    have e5 : ((E + 1) * 4503599627370496 + r) % 9223372036854775808 = (E + 1) * 4503599627370496 + r := by omega
    simp only [Bool.false_eq_true, if_false, e4, e5]
    rw [if_neg (by omega), if_pos e3, e1, e2]
    rfl
  · have e4 : (9223372036854775808 + ((E + 1) * 4503599627370496 + r)) / 9223372036854775808 % 2 = 1 := by omega
    have e5 : (9223372036854775808 + ((E + 1) * 4503599627370496 + r)) % 9223372036854775808 = (E + 1) * 4503599627370496 + r := by omega
    simp only [if_true, e4, e5]
    rw [if_neg (by omega), if_pos e3, e1, e2]
    rfl

/-- The float of a whole number. -/
def fI (n : Int) : Nat := FloatKind.f64.nearest n

theorem fI_zero : fI 0 = 0 := by decide +kernel

theorem fI_word (n : Int) (h0 : n ≠ 0) (h : n.natAbs < 2 ^ 53) :
    fI n = D.word (n < 0) (rungOf n.natAbs) := by
  have := nearest_small (decide (n < 0)) n.natAbs 0 (by omega) h (by omega)
  have hz : -((0 : Nat) : Int) = 0 := rfl
  rw [Nat.pow_zero, Nat.mul_one, hz] at this
  have e : fI n = D.nearest (decide (n < 0)) n.natAbs 0 := rfl
  exact e.trans this

theorem read_fI (n : Int) (h0 : n ≠ 0) (h : n.natAbs < 2 ^ 53) :
    D.read (fI n) = .number (n < 0) (n.natAbs * 2 ^ (52 - n.natAbs.log2)) ((n.natAbs.log2 : Int) - 52) := by
  rw [fI_word n h0 h]
  unfold rungOf
  have hb := kept_bounds n.natAbs (by omega) h
  have hL : n.natAbs.log2 < 53 := (Nat.log2_lt (by omega)).2 h
  obtain ⟨r, hr⟩ : ∃ r, n.natAbs * 2 ^ (52 - n.natAbs.log2) = 4503599627370496 + r := ⟨n.natAbs * 2 ^ (52 - n.natAbs.log2) - 4503599627370496, by omega⟩
  rw [hr]
  have e : (n.natAbs.log2 + 1022) * 4503599627370496 + (4503599627370496 + r) = (n.natAbs.log2 + 1022 + 1) * 4503599627370496 + r := by omega
  have ep : (-1074 + ((n.natAbs.log2 + 1022 : Nat) : Int)) = (n.natAbs.log2 : Int) - 52 := by omega
  rw [e, read_word _ _ _ (by omega) (by omega), ep]

theorem read_zero : D.read 0 = .number false 0 (-1074) := by decide +kernel

theorem read_zero' (k : Nat) (hk : k = 1074) : D.read (fI 0) = .number (decide ((0 : Int) < 0)) (Int.natAbs 0 * 2 ^ k) (-(k : Int)) := by
  rw [fI_zero, read_zero, Int.natAbs_zero, Nat.zero_mul, hk]
  rfl

/-- Every small whole number's float reads as itself, over some place. -/
theorem read_int (n : Int) (h : n.natAbs < 2 ^ 53) : ∃ k : Nat, k ≤ 1074 ∧ D.read (fI n) = .number (n < 0) (n.natAbs * 2 ^ k) (-(k : Int)) := by
  by_cases h0 : n = 0
  · subst h0
    obtain ⟨k, hk⟩ : ∃ k, k = 1074 := ⟨1074, rfl⟩
    exact ⟨k, by omega, read_zero' k hk⟩
  · have hL : n.natAbs.log2 < 53 := (Nat.log2_lt (by omega)).2 h
    refine ⟨52 - n.natAbs.log2, by omega, ?_⟩
    rw [read_fI n h0 h]
    congr 1; omega

theorem signed_int (n : Int) (k u : Nat) : signed (n < 0) (n.natAbs * 2 ^ k) u = n * (2 ^ (k + u) : Nat) := by
  unfold signed
  rw [Nat.shiftLeft_eq, Nat.mul_assoc, ← Nat.pow_add]
  by_cases h : n < 0
  · simp only [h, decide_true, if_true]
    rw [Int.natCast_mul, ← Int.neg_mul]; congr 1; omega
  · simp only [h, decide_false, Bool.false_eq_true, if_false]
    rw [Int.natCast_mul]; congr 1; omega

theorem compare_mul (a b : Int) (p : Nat) (hp : 0 < p) : compare (a * p) (b * p) = compare a b := by
  have hp' : (0 : Int) < p := by omega
  simp only [compare, compareOfLessAndEq]
  have h1 : (a * p < b * p) = (a < b) := by simp [Int.mul_lt_mul_right hp']
  have h2 : (a * p = b * p) = (a = b) := by
    simp only [eq_iff_iff]
    constructor
    · intro h; exact Int.eq_of_mul_eq_mul_right (by omega) h
    · rintro rfl; rfl
  simp only [h1, h2]

theorem order_fI (a b : Int) (ha : a.natAbs < 2 ^ 53) (hb : b.natAbs < 2 ^ 53) : D.order (fI a) (fI b) = some (compare a b) := by
  obtain ⟨k, _, hk⟩ := read_int a ha
  obtain ⟨j, _, hj⟩ := read_int b hb
  unfold Format.order
  rw [hk, hj]
  simp only [Datum.order]
  rw [signed_int, signed_int]
  have e : (k + (-(k : Int) - min (-(k : Int)) (-(j : Int))).toNat) = j + (-(j : Int) - min (-(k : Int)) (-(j : Int))).toNat := by omega
  rw [e, compare_mul _ _ _ (Nat.two_pow_pos _)]

theorem nearest_int (t : Int) (k : Nat) (hk : k ≤ 1074) (h : t.natAbs < 2 ^ 53) (hz : t ≠ 0) : D.nearest (t < 0) (t.natAbs * 2 ^ k) (-(k : Int)) = fI t := by
  rw [fI_word t hz h, nearest_small _ _ _ (by omega) h hk]

theorem natAbs_mul_pow (t : Int) (p : Nat) : (t * (p : Nat)).natAbs = t.natAbs * p := by
  rw [Int.natAbs_mul]; rfl

theorem add_fI (a b : Int) (ha : a.natAbs < 2 ^ 53) (hb : b.natAbs < 2 ^ 53) (hab : (a + b).natAbs < 2 ^ 53) : D.add (fI a) (fI b) = some (fI (a + b)) := by
  obtain ⟨k, hk1, hk⟩ := read_int a ha
  obtain ⟨j, hj1, hj⟩ := read_int b hb
  unfold Format.add
  rw [hk, hj]
  simp only [Datum.sum, Option.map_some]
  rw [signed_int, signed_int]
  obtain ⟨u, hu1, hu⟩ : ∃ u : Nat, u ≤ 1074 ∧ min (-(k : Int)) (-(j : Int)) = -(u : Int) := ⟨max k j, by omega, by omega⟩
  have e1 : (k + (-(k : Int) - min (-(k : Int)) (-(j : Int))).toNat) = u := by omega
  have e2 : j + (-(j : Int) - min (-(k : Int)) (-(j : Int))).toNat = u := by omega
  rw [e1, e2, hu, ← Int.add_mul]
  have hp := Nat.two_pow_pos u
  congr 1
  by_cases hz : a + b = 0
  · rw [hz]
    simp only [Int.zero_mul, if_true, Int.natAbs_zero]
    have hs : (decide (a < 0) && decide (b < 0)) = false := by
      by_cases h : a < 0 <;> simp [h]; omega
    rw [hs]
    show D.nearest false 0 _ = fI 0
    rw [fI_zero]
    simp [Format.nearest, Format.word]
  · have hz' : ¬ ((a + b) * ((2 ^ u : Nat) : Int) = 0) := by
      intro h
      rcases Int.mul_eq_zero.1 h with h | h <;> omega
    rw [if_neg hz', natAbs_mul_pow]
    have hs : ((a + b) * ((2 ^ u : Nat) : Int) < 0) = (a + b < 0) := by
      have hp' : (0 : Int) < ((2 ^ u : Nat) : Int) := by omega
      have := Int.mul_lt_mul_right (b := a + b) (c := 0) hp'
      simpa using this
    simp only [hs]
    exact nearest_int _ _ hu1 hab hz


theorem signed_not (s : Bool) (m u : Nat) : signed (!s) m u = - signed s m u := by
  unfold signed
  cases s <;> simp

theorem sub_fI (a b : Int) (ha : a.natAbs < 2 ^ 53) (hb : b.natAbs < 2 ^ 53) (hab : (a - b).natAbs < 2 ^ 53) : D.sub (fI a) (fI b) = some (fI (a - b)) := by
  obtain ⟨k, hk1, hk⟩ := read_int a ha
  obtain ⟨j, hj1, hj⟩ := read_int b hb
  unfold Format.sub
  rw [hk, hj]
  simp only [Datum.opposite, Datum.sum, Option.map_some]
  rw [signed_not, signed_int, signed_int]
  obtain ⟨u, hu1, hu⟩ : ∃ u : Nat, u ≤ 1074 ∧ min (-(k : Int)) (-(j : Int)) = -(u : Int) := ⟨max k j, by omega, by omega⟩
  have e1 : (k + (-(k : Int) - min (-(k : Int)) (-(j : Int))).toNat) = u := by omega
  have e2 : j + (-(j : Int) - min (-(k : Int)) (-(j : Int))).toNat = u := by omega
  rw [e1, e2, hu, ← Int.sub_eq_add_neg, ← Int.sub_mul]
  have hp := Nat.two_pow_pos u
  congr 1
  by_cases hz : a - b = 0
  · rw [hz]
    simp only [Int.zero_mul, if_true, Int.natAbs_zero]
    have hs : (decide (a < 0) && !decide (b < 0)) = false := by
      by_cases h : a < 0 <;> simp [h]; omega
    rw [hs]
    show D.nearest false 0 _ = fI 0
    rw [fI_zero]
    simp [Format.nearest, Format.word]
  · have hz' : ¬ ((a - b) * ((2 ^ u : Nat) : Int) = 0) := by
      intro h
      rcases Int.mul_eq_zero.1 h with h | h <;> omega
    rw [if_neg hz', natAbs_mul_pow]
    have hs : ((a - b) * ((2 ^ u : Nat) : Int) < 0) = (a - b < 0) := by
      have hp' : (0 : Int) < ((2 ^ u : Nat) : Int) := by omega
      have := Int.mul_lt_mul_right (b := a - b) (c := 0) hp'
      simpa using this
    simp only [hs]
    exact nearest_int _ _ hu1 hab hz

theorem cut_zero_way (neg : Bool) (n k : Nat) : Toward.zero.cut neg (n * 2 ^ k) k = n := by
  by_cases hn : n = 0
  · subst hn; simp [Toward.cut]
  · have hl := log2_mul_pow k hn
    have hm : min k ((n * 2 ^ k).log2 + 2) = k := by rw [hl]; omega
    have hd : n * 2 ^ k / 2 ^ k = n := Nat.mul_div_cancel _ (Nat.two_pow_pos k)
    simp [Toward.cut, hm, Nat.one_shiftLeft, hd]

theorem toInt_fI (n : Int) (h : n.natAbs < 2 ^ 53) : (D.read (fI n)).toInt .zero = some n := by
  obtain ⟨k, hk1, hk⟩ := read_int n h
  rw [hk]
  simp only [Datum.toInt, Datum.integral]
  have e1 : (-(k : Int)).toNat = 0 := by omega
  have e2 : (-(-(k : Int))).toNat = k := by omega
  rw [e1, e2, Nat.shiftLeft_zero, cut_zero_way]
  have := signed_int n 0 0
  simp only [Nat.pow_zero, Nat.mul_one, Nat.add_zero] at this
  rw [this]
  congr 1
  omega

theorem toIntVal_fI (n : Int) (h : n.natAbs < 2 ^ 53) : floatToIntVal .f64 (fI n) .i64 = some n := by
  unfold floatToIntVal
  have e : (FloatKind.f64.decode (fI n)).toInt .zero = some n := toInt_fI n h
  rw [e]
  have h1 : IntKind.i64.min = -9223372036854775808 := by decide
  have h2 : IntKind.i64.max = 9223372036854775807 := by decide
  have h3 : (2 : Nat) ^ 53 = 9007199254740992 := by decide
  simp only [h1, h2]
  rw [if_pos]
  omega

theorem read_kept (L kept : Nat) (h1 : 53 ≤ L) (h2 : L < 107) (h3 : 4503599627370496 ≤ kept) (h4 : kept ≤ 9007199254740992) :
    ∃ j r : Nat, 4503599627370496 ≤ r ∧ 1 ≤ j ∧ D.read (D.word false ((L + 1022) * 4503599627370496 + kept)) = .number false r (j : Int) := by
  by_cases hk : kept < 9007199254740992
  · obtain ⟨r, hr⟩ : ∃ r, kept = 4503599627370496 + r := ⟨kept - 4503599627370496, by omega⟩
    have e : (L + 1022) * 4503599627370496 + kept = (L + 1022 + 1) * 4503599627370496 + r := by omega
    have ep : (-1074 + ((L + 1022 : Nat) : Int)) = ((L - 52 : Nat) : Int) := by omega
    rw [e, read_word _ _ _ (by omega) (by omega), ep]
    exact ⟨L - 52, 4503599627370496 + r, by omega, by omega, rfl⟩
  · have e : (L + 1022) * 4503599627370496 + kept = (L + 1023 + 1) * 4503599627370496 + 0 := by omega
    have ep : (-1074 + ((L + 1023 : Nat) : Int)) = ((L - 51 : Nat) : Int) := by omega
    rw [e, read_word _ _ _ (by omega) (by omega), ep]
    exact ⟨L - 51, 4503599627370496 + 0, by omega, by omega, rfl⟩

theorem min_rung (L kept : Nat) (h2 : L < 107) (h4 : kept ≤ 9007199254740992) :
    min ((L + 1022) * 4503599627370496 + kept) 9218868437227405312 = (L + 1022) * 4503599627370496 + kept :=
  Nat.min_eq_left (by omega)

/-- A number of more than 53 digits: the word that is written is greater than each lesser one. -/
theorem nearest_big (m k : Nat) (h1 : 2 ^ 53 ≤ m) (hL2 : m.log2 < 107) : ∃ j r : Nat, 4503599627370496 ≤ r ∧ 1 ≤ j ∧
    D.read (D.nearest false (m * 2 ^ k) (-(k : Int))) = .number false r (j : Int) := by
  have h0 : m ≠ 0 := by have := Nat.two_pow_pos 53; omega
  have hL : 53 ≤ m.log2 := (Nat.le_log2 h0).2 h1
  have hmk : m * 2 ^ k ≠ 0 := by have := Nat.mul_pos (Nat.pos_of_ne_zero h0) (Nat.two_pow_pos k); omega
  have hl := log2_mul_pow k h0
  have hlast : max (-(k : Int) + ((m * 2 ^ k).log2 : Nat) - (D.fractionBits : Nat)) D.leastPlace = (m.log2 : Int) - 52 := by
    rw [hl, least_eq, frac_eq]; omega
  have e1 : (-(k : Int) - ((m.log2 : Int) - 52)).toNat = 0 := by omega
  have e2 : ((m.log2 : Int) - 52 - (-(k : Int))).toNat = m.log2 - 52 + k := by omega
  have e4 : ((m.log2 : Int) - 52 - D.leastPlace).toNat = m.log2 + 1022 := by rw [least_eq]; omega
  have hmin : min (m.log2 - 52 + k) ((m * 2 ^ k).log2 + 2) = m.log2 - 52 + k := by rw [hl]; omega
  have c1 := cut_le false (m * 2 ^ k) (m.log2 - 52 + k)
  have c2 := le_cut false (m * 2 ^ k) (m.log2 - 52 + k)
  rw [hmin] at c1 c2
  have hdiv : m * 2 ^ k / 2 ^ (m.log2 - 52 + k) = m / 2 ^ (m.log2 - 52) := by
    rw [Nat.pow_add]; exact Nat.mul_div_mul_right _ _ (Nat.two_pow_pos k)
  rw [hdiv] at c1 c2
  have a := Nat.log2_self_le h0
  have b := @Nat.lt_log2_self m
  have d1 : 4503599627370496 ≤ m / 2 ^ (m.log2 - 52) := by
    rw [Nat.le_div_iff_mul_le (Nat.two_pow_pos _)]
    have : (4503599627370496 : Nat) = 2 ^ 52 := by decide
    rw [this, ← Nat.pow_add]
    have : 52 + (m.log2 - 52) = m.log2 := by omega
    rw [this]; exact a
  have d2 : m / 2 ^ (m.log2 - 52) < 9007199254740992 := by
    rw [Nat.div_lt_iff_lt_mul (Nat.two_pow_pos _)]
    have : (9007199254740992 : Nat) = 2 ^ 53 := by decide
    rw [this, ← Nat.pow_add]
    have : 53 + (m.log2 - 52) = m.log2 + 1 := by omega
    rw [this]; exact b
  unfold Format.nearest
  rw [if_neg hmk]
  simp only [hlast, e1, e2, e4, Nat.shiftLeft_zero]
  generalize Toward.even.cut false (m * 2 ^ k) (m.log2 - 52 + k) = kept at *
  rw [infRung_eq, binade_eq]
  have k1 : 4503599627370496 ≤ kept := Nat.le_trans d1 c2
  have k2 : kept ≤ 9007199254740992 := Nat.le_trans c1 (Nat.succ_le_of_lt d2)
  rw [min_rung _ _ hL2 k2]
  exact read_kept _ _ hL hL2 k1 k2

theorem read_int_pos (n : Nat) (h0 : n ≠ 0) (h : n < 2 ^ 53) : ∃ k : Nat, k ≤ 52 ∧ D.read (fI n) = .number false (n * 2 ^ k) (-(k : Int)) := by
  have hL : n.log2 < 53 := (Nat.log2_lt h0).2 h
  refine ⟨52 - n.log2, by omega, ?_⟩
  have := read_fI n (by omega) (by simpa using h)
  rw [this]
  have e : (-((52 - n.log2 : Nat) : Int)) = (n.log2 : Int) - 52 := by omega
  rw [Int.natAbs_natCast, e]
  have : decide ((n : Int) < 0) = false := by simp
  rw [this]

theorem mul_zero_l (b : Nat) (h : b < 2 ^ 53) : D.mul (fI 0) (fI b) = some (fI 0) := by
  obtain ⟨j, hj1, hj⟩ := read_int b (by simpa using h)
  unfold Format.mul
  rw [hj, fI_zero, read_zero]
  have : decide ((b : Int) < 0) = false := by simp
  simp [Datum.product, this, Format.write, Format.nearest, Format.word]

theorem mul_zero_r (a : Nat) (h : a < 2 ^ 53) : D.mul (fI a) (fI 0) = some (fI 0) := by
  obtain ⟨j, hj1, hj⟩ := read_int a (by simpa using h)
  unfold Format.mul
  rw [hj, fI_zero, read_zero]
  have : decide ((a : Int) < 0) = false := by simp
  simp [Datum.product, this, Format.write, Format.nearest, Format.word]

theorem mul_val (a b : Nat) (a0 : a ≠ 0) (b0 : b ≠ 0) (ha : a < 2 ^ 53) (hb : b < 2 ^ 53) : ∃ k : Nat, k ≤ 104 ∧
    D.mul (fI a) (fI b) = some (D.nearest false (a * b * 2 ^ k) (-(k : Int))) := by
  obtain ⟨k, hk1, hk⟩ := read_int_pos a a0 ha
  obtain ⟨j, hj1, hj⟩ := read_int_pos b b0 hb
  refine ⟨k + j, by omega, ?_⟩
  unfold Format.mul
  rw [hk, hj]
  simp only [Datum.product, Option.map_some]
  have e : a * 2 ^ k * (b * 2 ^ j) = a * b * 2 ^ (k + j) := by
    rw [Nat.pow_add, Nat.mul_assoc, Nat.mul_assoc, Nat.mul_left_comm (2 ^ k)]
  have e' : (-(k : Int) + -(j : Int)) = -((k + j : Nat) : Int) := by omega
  rw [e, e']
  rfl

theorem mul_small (a b : Nat) (ha : a < 2 ^ 53) (hb : b < 2 ^ 53) (hab : a * b < 2 ^ 53) : D.mul (fI a) (fI b) = some (fI ((a * b : Nat) : Int)) := by
  by_cases a0 : a = 0
  · subst a0; rw [Nat.zero_mul]; exact mul_zero_l b hb
  by_cases b0 : b = 0
  · subst b0; rw [Nat.mul_zero]; exact mul_zero_r a ha
  obtain ⟨k, hk, h⟩ := mul_val a b a0 b0 ha hb
  rw [h]
  congr 1
  have hne : a * b ≠ 0 := Nat.mul_ne_zero a0 b0
  have := nearest_int ((a * b : Nat) : Int) k (by omega) (by rw [Int.natAbs_natCast]; exact hab) (by omega)
  rw [Int.natAbs_natCast] at this
  have hd : decide (((a * b : Nat) : Int) < 0) = false := by simp; omega
  rw [hd] at this
  exact this

theorem mul_big (a b : Nat) (ha : a < 2 ^ 53) (hb : b < 2 ^ 53) (hab : 2 ^ 53 ≤ a * b) : ∃ r, D.mul (fI a) (fI b) = some r ∧ ∀ c : Nat, c < 2 ^ 53 → D.order r (fI c) = some .gt := by
  have a0 : a ≠ 0 := by rintro rfl; have := Nat.two_pow_pos 53; omega
  have b0 : b ≠ 0 := by rintro rfl; have := Nat.two_pow_pos 53; omega
  obtain ⟨k, hk, h⟩ := mul_val a b a0 b0 ha hb
  refine ⟨_, h, fun c hc => ?_⟩
  have hlt : (a * b).log2 < 107 := by
    have h1 : a * b < 2 ^ 53 * 2 ^ 53 := Nat.mul_lt_mul'' ha hb
    rw [← Nat.pow_add] at h1
    have h2 : a * b ≠ 0 := Nat.mul_ne_zero a0 b0
    have := (Nat.log2_lt h2).2 h1
    omega
  obtain ⟨j, r, hr, hj, hread⟩ := nearest_big (a * b) k hab hlt
  obtain ⟨i, hi1, hi⟩ := read_int c (by simpa using hc)
  unfold Format.order
  rw [hread, hi]
  simp only [Datum.order]
  rw [signed_int]
  have e1 : min (j : Int) (-(i : Int)) = -(i : Int) := by omega
  have e2 : ((j : Int) - -(i : Int)).toNat = j + i := by omega
  have e3 : (-(i : Int) - -(i : Int)).toNat = 0 := by omega
  rw [e1, e2, e3]
  unfold signed
  rw [Nat.shiftLeft_eq, Nat.add_zero, Nat.pow_add]
  have h53 : (2 : Nat) ^ 53 = 9007199254740992 := by decide
  have hp := Nat.two_pow_pos i
  have hj2 : 2 ≤ 2 ^ j := by
    have : 2 ^ 1 ≤ 2 ^ j := Nat.pow_le_pow_right (by omega) hj
    simpa using this
  have hlt2 : c * 2 ^ i < r * (2 ^ j * 2 ^ i) := by
    rw [← Nat.mul_assoc]
    refine Nat.mul_lt_mul_of_pos_right ?_ hp
    have : r * 2 ≤ r * 2 ^ j := Nat.mul_le_mul_left _ hj2
    omega
  have hlt3 : ((c : Nat) : Int) * ((2 ^ i : Nat) : Int) < ((r * (2 ^ j * 2 ^ i) : Nat) : Int) := by
    rw [← Int.natCast_mul]; omega
  simp only [Bool.false_eq_true, if_false]
  generalize ((r * (2 ^ j * 2 ^ i) : Nat) : Int) = X at *
  generalize ((c : Nat) : Int) * ((2 ^ i : Nat) : Int) = Y at *
  congr 1
  simp only [compare, compareOfLessAndEq]
  rw [if_neg (by omega), if_neg (by omega)]

theorem neg_neg_float (b : Nat) : Op.negFloat .f64 (Op.negFloat .f64 b) = b := by
  unfold Op.negFloat
  rw [Nat.xor_assoc, Nat.xor_self, Nat.xor_zero]

#print axioms mul_big
#print axioms toIntVal_fI
end Fl
