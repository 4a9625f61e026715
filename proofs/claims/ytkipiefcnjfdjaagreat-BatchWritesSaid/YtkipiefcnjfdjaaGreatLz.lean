/- Longest matches and the tokens of a text: plain, no program. -/
import Derived.Test.YtkipiefcnjfdjaaGreatRep
namespace Go.Bs
set_option linter.unusedVariables false
set_option linter.unusedSimpArgs false

/-- How many bytes from a place on are as those off bytes back, at most f. -/
def runLen (b : List UInt8) (off : Nat) : Nat → Nat → Nat
  | 0, _ => 0
  | f + 1, p => if p < b.length ∧ b[p]? = b[p - off]? then runLen b off f (p + 1) + 1 else 0
def mlen (b : List UInt8) (p off : Nat) : Nat := if p < b.length ∧ 1 ≤ off ∧ off ≤ p then runLen b off (b.length - p) p else 0

theorem runLen_le (b : List UInt8) (off : Nat) : ∀ f p, runLen b off f p ≤ f
  | 0, _ => Nat.le_refl _
  | f + 1, p => by
    unfold runLen
    split
    · have := runLen_le b off f (p + 1); omega
    · omega
theorem mlen_le (b : List UInt8) (p off : Nat) : mlen b p off ≤ b.length - p := by
  unfold mlen
  split
  · exact runLen_le ..
  · omega
/-- The bytes that are alike. -/
theorem runLen_same (b : List UInt8) (off : Nat) : ∀ f p k, k < runLen b off f p → p + k < b.length ∧ b[p + k]? = b[p + k - off]?
  | 0, _, k, h => by simp [runLen] at h
  | f + 1, p, k, h => by
    unfold runLen at h
    split at h
    · rename_i hc
      cases k with
      | zero => exact hc
      | succ k =>
        have := runLen_same b off f (p + 1) k (by omega)
        rw [show p + (k + 1) = p + 1 + k by omega]
        exact this
    · omega
theorem runLen_ge (b : List UInt8) (off : Nat) : ∀ f p k, k ≤ f → (∀ j, j < k → p + j < b.length ∧ b[p + j]? = b[p + j - off]?) → k ≤ runLen b off f p
  | _, _, 0, _, _ => Nat.zero_le _
  | 0, _, k + 1, h, _ => by omega
  | f + 1, p, k + 1, h, hs => by
    unfold runLen
    rw [if_pos (by simpa using hs 0 (by omega))]
    have := runLen_ge b off f (p + 1) k (by omega) fun j hj => by
      have := hs (j + 1) (by omega)
      rw [show p + (j + 1) = p + 1 + j by omega] at this
      exact this
    omega
theorem mlen_ge {b : List UInt8} {p off k : Nat} (h1 : 1 ≤ off) (h2 : off ≤ p) (hp : p < b.length) (h : ∀ j, j < k → p + j < b.length ∧ b[p + j]? = b[p + j - off]?) : k ≤ mlen b p off := by
  unfold mlen
  rw [if_pos ⟨hp, h1, h2⟩]
  refine runLen_ge _ _ _ _ _ ?_ h
  rcases Nat.eq_zero_or_pos k with rfl | h0
  · exact Nat.zero_le _
  · have := (h (k - 1) (by omega)).1; omega
theorem mlen_same {b : List UInt8} {p off k : Nat} (h : k < mlen b p off) : 1 ≤ off ∧ off ≤ p ∧ p + k < b.length ∧ b[p + k]? = b[p + k - off]? := by
  unfold mlen at h
  split at h
  · rename_i hc
    exact ⟨hc.2.1, hc.2.2, runLen_same _ _ _ _ _ h⟩
  · omega

/-- The longest match of the first k offsets. -/
def maxM (b : List UInt8) (p : Nat) : Nat → Nat
  | 0 => 0
  | k + 1 => max (maxM b p k) (mlen b p (k + 1))
/-- The least offset of at most k from o on of such a match. -/
def firstM (b : List UInt8) (p m : Nat) : Nat → Nat → Nat
  | 0, _ => 0
  | f + 1, o => if mlen b p o = m then o else firstM b p m f (o + 1)
theorem maxM_ge (b : List UInt8) (p : Nat) : ∀ k o, 1 ≤ o → o ≤ k → mlen b p o ≤ maxM b p k
  | 0, o, h1, h2 => by omega
  | k + 1, o, h1, h2 => by
    simp only [maxM]
    by_cases h : o = k + 1
    · subst h; omega
    · have := maxM_ge b p k o h1 (by omega); omega
theorem maxM_le (b : List UInt8) (p : Nat) : ∀ k, maxM b p k ≤ b.length - p
  | 0 => Nat.zero_le _
  | k + 1 => by
    simp only [maxM]
    have := maxM_le b p k
    have := mlen_le b p (k + 1)
    omega
theorem maxM_is (b : List UInt8) (p : Nat) : ∀ k, maxM b p k = 0 ∨ ∃ o, 1 ≤ o ∧ o ≤ k ∧ mlen b p o = maxM b p k
  | 0 => .inl rfl
  | k + 1 => by
    simp only [maxM]
    rcases Nat.le_total (maxM b p k) (mlen b p (k + 1)) with h | h
    · rw [Nat.max_eq_right h]
      exact .inr ⟨k + 1, by omega, Nat.le_refl _, rfl⟩
    · rw [Nat.max_eq_left h]
      rcases maxM_is b p k with h0 | ⟨o, h1, h2, h3⟩
      · exact .inl h0
      · exact .inr ⟨o, h1, by omega, h3⟩
theorem firstM_is (b : List UInt8) (p m : Nat) : ∀ f o o', o ≤ o' → o' < o + f → mlen b p o' = m → (∀ j, o ≤ j → j < o' → mlen b p j ≠ m) → firstM b p m f o = o'
  | 0, o, o', h1, h2, _, _ => by omega
  | f + 1, o, o', h1, h2, h3, h4 => by
    unfold firstM
    by_cases h : o = o'
    · subst h; rw [if_pos h3]
    · rw [if_neg (h4 o (Nat.le_refl _) (by omega))]
      exact firstM_is b p m f (o + 1) o' (by omega) (by omega) h3 fun j h5 h6 => h4 j (by omega) h6

/-- How far back is looked. -/
def reach (p : Nat) : Nat := min p 65536
/-- The best match of a place: the longest, then the least offset; none under 4. -/
def bestR (b : List UInt8) (p : Nat) : Nat × Nat :=
  if 4 ≤ maxM b p (reach p) then (firstM b p (maxM b p (reach p)) (reach p) 1, maxM b p (reach p)) else (0, 0)
theorem least_is (b : List UInt8) (p m : Nat) : ∀ k, (∃ o, 1 ≤ o ∧ o ≤ k ∧ mlen b p o = m) → ∃ o, 1 ≤ o ∧ o ≤ k ∧ mlen b p o = m ∧ ∀ j, 1 ≤ j → j < o → mlen b p j ≠ m
  | 0, ⟨o, h1, h2, _⟩ => by omega
  | k + 1, ⟨o, h1, h2, h3⟩ => by
    by_cases h : ∃ o, 1 ≤ o ∧ o ≤ k ∧ mlen b p o = m
    · obtain ⟨o, g1, g2, g3, g4⟩ := least_is b p m k h
      exact ⟨o, g1, by omega, g3, g4⟩
    · refine ⟨o, h1, h2, h3, fun j j1 j2 j3 => h ⟨j, j1, by omega, j3⟩⟩
/-- What the best match is. -/
theorem bestR_is {b : List UInt8} {p o m : Nat} (h1 : 1 ≤ o) (h2 : o ≤ reach p) (h4 : 4 ≤ m) (hm : mlen b p o = m) (hall : ∀ j, 1 ≤ j → j ≤ reach p → mlen b p j ≤ m) (hlt : ∀ j, 1 ≤ j → j < o → mlen b p j < m) : bestR b p = (o, m) := by
  have e : maxM b p (reach p) = m := by
    have := maxM_ge b p (reach p) o h1 h2
    rcases maxM_is b p (reach p) with h | ⟨o', g1, g2, g3⟩
    · omega
    · have := hall o' g1 g2; omega
  unfold bestR
  rw [e, if_pos h4, firstM_is b p m (reach p) 1 o h1 (by omega) hm fun j j1 j2 => by have := hlt j j1 j2; omega]
theorem bestR_none {b : List UInt8} {p : Nat} (h : ∀ j, 1 ≤ j → j ≤ reach p → mlen b p j < 4) : bestR b p = (0, 0) := by
  unfold bestR
  rw [if_neg]
  rcases maxM_is b p (reach p) with h0 | ⟨o', g1, g2, g3⟩
  · omega
  · have := h o' g1 g2; omega
/-- What there is to say of it. -/
theorem bestR_facts (b : List UInt8) (p : Nat) : bestR b p = (0, 0) ∨ ∃ o m, bestR b p = (o, m) ∧ 1 ≤ o ∧ o ≤ reach p ∧ 4 ≤ m ∧ mlen b p o = m ∧ (∀ j, 1 ≤ j → j ≤ reach p → mlen b p j ≤ m) ∧ ∀ j, 1 ≤ j → j < o → mlen b p j < m := by
  by_cases h : 4 ≤ maxM b p (reach p)
  · right
    rcases maxM_is b p (reach p) with h0 | hx
    · omega
    · obtain ⟨o, g1, g2, g3, g4⟩ := least_is b p _ _ hx
      have hall := fun j (j1 : 1 ≤ j) (j2 : j ≤ reach p) => maxM_ge b p _ j j1 j2
      have hlt : ∀ j, 1 ≤ j → j < o → mlen b p j < maxM b p (reach p) := fun j j1 j2 => by
        have := hall j j1 (by omega)
        have := g4 j j1 j2
        omega
      exact ⟨o, _, bestR_is g1 g2 h g3 hall hlt, g1, g2, h, g3, hall, hlt⟩
  · left
    unfold bestR
    rw [if_neg h]
theorem bestR_room (b : List UInt8) (p : Nat) : (bestR b p).2 ≤ b.length - p ∧ (bestR b p).1 ≤ p := by
  rcases bestR_facts b p with h | ⟨o, m, h, _, h2, _, h4, _⟩
  · rw [h]; exact ⟨Nat.zero_le _, Nat.zero_le _⟩
  · rw [h]
    have := mlen_le b p o
    simp only [reach] at h2
    exact ⟨by simp only; omega, by simp only; omega⟩

/-- A token: bytes, or how far back and how many. -/
structure Tok where
  lit : List UInt8
  off : Int
  len : Int
  deriving DecidableEq
def litT (b : List UInt8) (i j : Nat) : List Tok := if i < j then [⟨(b.drop i).take (j - i), 0, 0⟩] else []
/-- The tokens of a text from place p on, a run having begun at place i. -/
def toksF (b : List UInt8) : Nat → Nat → Nat → List Tok
  | 0, _, i => litT b i b.length
  | f + 1, p, i => if p < b.length then
      (if (bestR b p).2 = 0 then toksF b f (p + 1) i
       else litT b i p ++ ⟨[], (bestR b p).1, (bestR b p).2⟩ :: toksF b f (p + (bestR b p).2) (p + (bestR b p).2))
      else litT b i b.length
def toksR (b : List UInt8) : List Tok := toksF b b.length 0 0
/-- However much there is to spare. -/
theorem toksF_more (b : List UInt8) : ∀ f g p i, b.length ≤ p + f → b.length ≤ p + g → toksF b f p i = toksF b g p i
  | 0, 0, _, _, _, _ => rfl
  | 0, g + 1, p, i, h, _ => by
    simp only [toksF]
    rw [if_neg (by omega)]
  | f + 1, 0, p, i, _, h => by
    simp only [toksF]
    rw [if_neg (by omega)]
  | f + 1, g + 1, p, i, h1, h2 => by
    simp only [toksF]
    split
    · split
      · exact toksF_more b f g (p + 1) i (by omega) (by omega)
      · rename_i hn
        rw [toksF_more b f g (p + (bestR b p).2) (p + (bestR b p).2) (by omega) (by omega)]
    · rfl
/-- The tokens from a place on. -/
def toksA (b : List UInt8) (p i : Nat) : List Tok := toksF b (b.length - p) p i
theorem toksA_none {b : List UInt8} {p i : Nat} (hp : p < b.length) (h : (bestR b p).2 = 0) : toksA b p i = toksA b (p + 1) i := by
  unfold toksA
  obtain ⟨f, hf⟩ : ∃ f, b.length - p = f + 1 := ⟨b.length - p - 1, by omega⟩
  rw [hf]
  simp only [toksF]
  rw [if_pos hp, if_pos h]
  exact toksF_more b _ _ _ _ (by omega) (by omega)
theorem toksA_some {b : List UInt8} {p i : Nat} (hp : p < b.length) (h : (bestR b p).2 ≠ 0) : toksA b p i = litT b i p ++ ⟨[], (bestR b p).1, (bestR b p).2⟩ :: toksA b (p + (bestR b p).2) (p + (bestR b p).2) := by
  unfold toksA
  obtain ⟨f, hf⟩ : ∃ f, b.length - p = f + 1 := ⟨b.length - p - 1, by omega⟩
  rw [hf]
  simp only [toksF]
  rw [if_pos hp, if_neg h]
  congr 2
  exact toksF_more b _ _ _ _ (by omega) (by omega)
theorem toksA_end {b : List UInt8} {p i : Nat} (hp : b.length ≤ p) : toksA b p i = litT b i b.length := by
  unfold toksA
  rw [show b.length - p = 0 by omega]; rfl

/-! Places with the same key. -/
def keyAt (b : List UInt8) (p : Nat) : Option Nat :=
  match b[p]?, b[p + 1]?, b[p + 2]?, b[p + 3]? with
  | some a, some c, some d, some e => some (a.toNat + 256 * c.toNat + 65536 * d.toNat + 16777216 * e.toNat)
  | _, _, _, _ => none
/-- One more than the last place below j with that key, or 0. -/
def lastP (b : List UInt8) (k : Nat) : Nat → Nat
  | 0 => 0
  | j + 1 => if keyAt b j = some k then j + 1 else lastP b k j
/-- The places below j with that key, the nearest first. -/
def plc (b : List UInt8) (k : Nat) : Nat → List Nat
  | 0 => []
  | j + 1 => if keyAt b j = some k then j :: plc b k j else plc b k j
theorem lastP_le (b : List UInt8) (k : Nat) : ∀ j, lastP b k j ≤ j
  | 0 => Nat.le_refl _
  | j + 1 => by
    unfold lastP
    split
    · omega
    · have := lastP_le b k j; omega
theorem lastP_key (b : List UInt8) (k : Nat) : ∀ j, lastP b k j ≠ 0 → keyAt b (lastP b k j - 1) = some k
  | 0, h => absurd rfl h
  | j + 1, h => by
    unfold lastP at h ⊢
    split
    · rename_i hk; simpa using hk
    · rename_i hk
      rw [if_neg hk] at h
      exact lastP_key b k j h
theorem plc_last (b : List UInt8) (k : Nat) : ∀ j, plc b k j = if lastP b k j = 0 then [] else (lastP b k j - 1) :: plc b k (lastP b k j - 1)
  | 0 => rfl
  | j + 1 => by
    rw [show plc b k (j + 1) = if keyAt b j = some k then j :: plc b k j else plc b k j from rfl, show lastP b k (j + 1) = if keyAt b j = some k then j + 1 else lastP b k j from rfl]
    split
    · simp
    · exact plc_last b k j
theorem plc_mem (b : List UInt8) (k : Nat) : ∀ j q, q ∈ plc b k j ↔ q < j ∧ keyAt b q = some k
  | 0, q => by simp [plc]
  | j + 1, q => by
    unfold plc
    have ih := plc_mem b k j q
    split
    · rename_i hk
      rw [List.mem_cons, ih]
      constructor
      · rintro (rfl | ⟨h1, h2⟩)
        · exact ⟨by omega, hk⟩
        · exact ⟨by omega, h2⟩
      · rintro ⟨h1, h2⟩
        by_cases e : q = j
        · exact .inl e
        · exact .inr ⟨by omega, h2⟩
    · rename_i hk
      rw [ih]
      constructor
      · rintro ⟨h1, h2⟩; exact ⟨by omega, h2⟩
      · rintro ⟨h1, h2⟩
        refine ⟨?_, h2⟩
        by_cases e : q = j
        · subst e; exact absurd h2 hk
        · omega
end Go.Bs
