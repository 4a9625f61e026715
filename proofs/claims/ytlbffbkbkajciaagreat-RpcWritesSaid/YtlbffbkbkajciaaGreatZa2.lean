/- Needed by bodyWrites_walk, part 2: texts put together by shake.py; no condition. -/
import Derived.Test.YtlbffbkbkajciaaGreatZa1
import Derived.Test.YtlbffbkbkajciaaGreatRows
import Derived.Deep.AppendLies
import Derived.Maps.OwnOps
import Derived.Maps.Views
import Derived.Sort.QuietThIn
import Derived.Sort.BigQuietIn
import Derived.Sort.QuietTacIn
import Derived.RangeFuncNested
import Derived.RangeFuncBound
import Derived.RangeFuncCalls
import Derived.RangeFuncLeaves
import Derived.Shelf.Abstract
import Derived.Shelf.RegionOpen
import Derived.OwnWalkIn
import Derived.TacticsInMore
import Derived.LoopNIn
import Derived.LoopIn
import Derived.Maps.OwnIn
import Derived.StillTailTactics
namespace Go.Bs
set_option linter.unusedVariables false
set_option linter.unusedSimpArgs false

/-- How many bytes from a place on are as those off bytes back, at most f. -/
def runLen (b : List UInt8) (off : Nat) : Nat → Nat → Nat
  | 0, _ => 0
  | f + 1, p => if p < b.length ∧ b[p]? = b[p - off]? then runLen b off f (p + 1) + 1 else 0
def mlen (b : List UInt8) (p off : Nat) : Nat := if p < b.length ∧ 1 ≤ off ∧ off ≤ p then runLen b off (b.length - p) p else 0

theorem runLen_le (b : List UInt8) (off : Nat) : ∀ f p, runLen b off f p ≤ f
  | 0, _ => Nat.le_refl _
  | f + 1, p => by
    unfold runLen
    split
    · have := runLen_le b off f (p + 1); omega
    · omega
theorem mlen_le (b : List UInt8) (p off : Nat) : mlen b p off ≤ b.length - p := by
  unfold mlen
  split
  · exact runLen_le ..
  · omega
/-- The bytes that are alike. -/
theorem runLen_same (b : List UInt8) (off : Nat) : ∀ f p k, k < runLen b off f p → p + k < b.length ∧ b[p + k]? = b[p + k - off]?
  | 0, _, k, h => by simp [runLen] at h
  | f + 1, p, k, h => by
    unfold runLen at h
    split at h
    · rename_i hc
      cases k with
      | zero => exact hc
      | succ k =>
        have := runLen_same b off f (p + 1) k (by omega)
        rw [show p + (k + 1) = p + 1 + k by omega]
        exact this
    · omega
theorem runLen_ge (b : List UInt8) (off : Nat) : ∀ f p k, k ≤ f → (∀ j, j < k → p + j < b.length ∧ b[p + j]? = b[p + j - off]?) → k ≤ runLen b off f p
  | _, _, 0, _, _ => Nat.zero_le _
  | 0, _, k + 1, h, _ => by omega
  | f + 1, p, k + 1, h, hs => by
    unfold runLen
    rw [if_pos (by simpa using hs 0 (by omega))]
    have := runLen_ge b off f (p + 1) k (by omega) fun j hj => by
      have := hs (j + 1) (by omega)
      rw [show p + (j + 1) = p + 1 + j by omega] at this
      exact this
    omega
theorem mlen_ge {b : List UInt8} {p off k : Nat} (h1 : 1 ≤ off) (h2 : off ≤ p) (hp : p < b.length) (h : ∀ j, j < k → p + j < b.length ∧ b[p + j]? = b[p + j - off]?) : k ≤ mlen b p off := by
  unfold mlen
  rw [if_pos ⟨hp, h1, h2⟩]
  refine runLen_ge _ _ _ _ _ ?_ h
  rcases Nat.eq_zero_or_pos k with rfl | h0
  · exact Nat.zero_le _
  · have := (h (k - 1) (by omega)).1; omega
theorem mlen_same {b : List UInt8} {p off k : Nat} (h : k < mlen b p off) : 1 ≤ off ∧ off ≤ p ∧ p + k < b.length ∧ b[p + k]? = b[p + k - off]? := by
  unfold mlen at h
  split at h
  · rename_i hc
    exact ⟨hc.2.1, hc.2.2, runLen_same _ _ _ _ _ h⟩
  · omega

/-- The longest match of the first k offsets. -/
def maxM (b : List UInt8) (p : Nat) : Nat → Nat
  | 0 => 0
  | k + 1 => max (maxM b p k) (mlen b p (k + 1))
/-- The least offset of at most k from o on of such a match. -/
def firstM (b : List UInt8) (p m : Nat) : Nat → Nat → Nat
  | 0, _ => 0
  | f + 1, o => if mlen b p o = m then o else firstM b p m f (o + 1)
theorem maxM_ge (b : List UInt8) (p : Nat) : ∀ k o, 1 ≤ o → o ≤ k → mlen b p o ≤ maxM b p k
  | 0, o, h1, h2 => by omega
  | k + 1, o, h1, h2 => by
    simp only [maxM]
    by_cases h : o = k + 1
    · subst h; omega
    · have := maxM_ge b p k o h1 (by omega); omega
theorem maxM_is (b : List UInt8) (p : Nat) : ∀ k, maxM b p k = 0 ∨ ∃ o, 1 ≤ o ∧ o ≤ k ∧ mlen b p o = maxM b p k
  | 0 => .inl rfl
  | k + 1 => by
    simp only [maxM]
    rcases Nat.le_total (maxM b p k) (mlen b p (k + 1)) with h | h
    · rw [Nat.max_eq_right h]
      exact .inr ⟨k + 1, by omega, Nat.le_refl _, rfl⟩
    · rw [Nat.max_eq_left h]
      rcases maxM_is b p k with h0 | ⟨o, h1, h2, h3⟩
      · exact .inl h0
      · exact .inr ⟨o, h1, by omega, h3⟩
theorem firstM_is (b : List UInt8) (p m : Nat) : ∀ f o o', o ≤ o' → o' < o + f → mlen b p o' = m → (∀ j, o ≤ j → j < o' → mlen b p j ≠ m) → firstM b p m f o = o'
  | 0, o, o', h1, h2, _, _ => by omega
  | f + 1, o, o', h1, h2, h3, h4 => by
    unfold firstM
    by_cases h : o = o'
    · subst h; rw [if_pos h3]
    · rw [if_neg (h4 o (Nat.le_refl _) (by omega))]
      exact firstM_is b p m f (o + 1) o' (by omega) (by omega) h3 fun j h5 h6 => h4 j (by omega) h6

/-- How far back is looked. -/
def reach (p : Nat) : Nat := min p 65536
/-- The best match of a place: the longest, then the least offset; none under 4. -/
def bestR (b : List UInt8) (p : Nat) : Nat × Nat :=
  if 4 ≤ maxM b p (reach p) then (firstM b p (maxM b p (reach p)) (reach p) 1, maxM b p (reach p)) else (0, 0)
theorem least_is (b : List UInt8) (p m : Nat) : ∀ k, (∃ o, 1 ≤ o ∧ o ≤ k ∧ mlen b p o = m) → ∃ o, 1 ≤ o ∧ o ≤ k ∧ mlen b p o = m ∧ ∀ j, 1 ≤ j → j < o → mlen b p j ≠ m
  | 0, ⟨o, h1, h2, _⟩ => by omega
  | k + 1, ⟨o, h1, h2, h3⟩ => by
    by_cases h : ∃ o, 1 ≤ o ∧ o ≤ k ∧ mlen b p o = m
    · obtain ⟨o, g1, g2, g3, g4⟩ := least_is b p m k h
      exact ⟨o, g1, by omega, g3, g4⟩
    · refine ⟨o, h1, h2, h3, fun j j1 j2 j3 => h ⟨j, j1, by omega, j3⟩⟩
/-- What the best match is. -/
theorem bestR_is {b : List UInt8} {p o m : Nat} (h1 : 1 ≤ o) (h2 : o ≤ reach p) (h4 : 4 ≤ m) (hm : mlen b p o = m) (hall : ∀ j, 1 ≤ j → j ≤ reach p → mlen b p j ≤ m) (hlt : ∀ j, 1 ≤ j → j < o → mlen b p j < m) : bestR b p = (o, m) := by
  have e : maxM b p (reach p) = m := by
    have := maxM_ge b p (reach p) o h1 h2
    rcases maxM_is b p (reach p) with h | ⟨o', g1, g2, g3⟩
    · omega
    · have := hall o' g1 g2; omega
  unfold bestR
  rw [e, if_pos h4, firstM_is b p m (reach p) 1 o h1 (by omega) hm fun j j1 j2 => by have := hlt j j1 j2; omega]
theorem bestR_none {b : List UInt8} {p : Nat} (h : ∀ j, 1 ≤ j → j ≤ reach p → mlen b p j < 4) : bestR b p = (0, 0) := by
  unfold bestR
  rw [if_neg]
  rcases maxM_is b p (reach p) with h0 | ⟨o', g1, g2, g3⟩
  · omega
  · have := h o' g1 g2; omega
/-- What there is to say of it. -/
theorem bestR_facts (b : List UInt8) (p : Nat) : bestR b p = (0, 0) ∨ ∃ o m, bestR b p = (o, m) ∧ 1 ≤ o ∧ o ≤ reach p ∧ 4 ≤ m ∧ mlen b p o = m ∧ (∀ j, 1 ≤ j → j ≤ reach p → mlen b p j ≤ m) ∧ ∀ j, 1 ≤ j → j < o → mlen b p j < m := by
  by_cases h : 4 ≤ maxM b p (reach p)
  · right
    rcases maxM_is b p (reach p) with h0 | hx
    · omega
    · obtain ⟨o, g1, g2, g3, g4⟩ := least_is b p _ _ hx
      have hall := fun j (j1 : 1 ≤ j) (j2 : j ≤ reach p) => maxM_ge b p _ j j1 j2
      have hlt : ∀ j, 1 ≤ j → j < o → mlen b p j < maxM b p (reach p) := fun j j1 j2 => by
        have := hall j j1 (by omega)
        have := g4 j j1 j2
        omega
      exact ⟨o, _, bestR_is g1 g2 h g3 hall hlt, g1, g2, h, g3, hall, hlt⟩
  · left
    unfold bestR
    rw [if_neg h]
theorem bestR_room (b : List UInt8) (p : Nat) : (bestR b p).2 ≤ b.length - p ∧ (bestR b p).1 ≤ p := by
  rcases bestR_facts b p with h | ⟨o, m, h, _, h2, _, h4, _⟩
  · rw [h]; exact ⟨Nat.zero_le _, Nat.zero_le _⟩
  · rw [h]
    have := mlen_le b p o
    simp only [reach] at h2
    exact ⟨by simp only; omega, by simp only; omega⟩

/-- A token: bytes, or how far back and how many. -/
structure Tok where
  lit : List UInt8
  off : Int
  len : Int
  deriving DecidableEq
def litT (b : List UInt8) (i j : Nat) : List Tok := if i < j then [⟨(b.drop i).take (j - i), 0, 0⟩] else []
/-- The tokens of a text from place p on, a run having begun at place i. -/
def toksF (b : List UInt8) : Nat → Nat → Nat → List Tok
  | 0, _, i => litT b i b.length
  | f + 1, p, i => if p < b.length then
      (if (bestR b p).2 = 0 then toksF b f (p + 1) i
       else litT b i p ++ ⟨[], (bestR b p).1, (bestR b p).2⟩ :: toksF b f (p + (bestR b p).2) (p + (bestR b p).2))
      else litT b i b.length
def toksR (b : List UInt8) : List Tok := toksF b b.length 0 0
/-- However much there is to spare. -/
theorem toksF_more (b : List UInt8) : ∀ f g p i, b.length ≤ p + f → b.length ≤ p + g → toksF b f p i = toksF b g p i
  | 0, 0, _, _, _, _ => rfl
  | 0, g + 1, p, i, h, _ => by
    simp only [toksF]
    rw [if_neg (by omega)]
  | f + 1, 0, p, i, _, h => by
    simp only [toksF]
    rw [if_neg (by omega)]
  | f + 1, g + 1, p, i, h1, h2 => by
    simp only [toksF]
    split
    · split
      · exact toksF_more b f g (p + 1) i (by omega) (by omega)
      · rename_i hn
        rw [toksF_more b f g (p + (bestR b p).2) (p + (bestR b p).2) (by omega) (by omega)]
    · rfl
/-- The tokens from a place on. -/
def toksA (b : List UInt8) (p i : Nat) : List Tok := toksF b (b.length - p) p i
theorem toksA_none {b : List UInt8} {p i : Nat} (hp : p < b.length) (h : (bestR b p).2 = 0) : toksA b p i = toksA b (p + 1) i := by
  unfold toksA
  obtain ⟨f, hf⟩ : ∃ f, b.length - p = f + 1 := ⟨b.length - p - 1, by omega⟩
  rw [hf]
  simp only [toksF]
  rw [if_pos hp, if_pos h]
  exact toksF_more b _ _ _ _ (by omega) (by omega)
theorem toksA_some {b : List UInt8} {p i : Nat} (hp : p < b.length) (h : (bestR b p).2 ≠ 0) : toksA b p i = litT b i p ++ ⟨[], (bestR b p).1, (bestR b p).2⟩ :: toksA b (p + (bestR b p).2) (p + (bestR b p).2) := by
  unfold toksA
  obtain ⟨f, hf⟩ : ∃ f, b.length - p = f + 1 := ⟨b.length - p - 1, by omega⟩
  rw [hf]
  simp only [toksF]
  rw [if_pos hp, if_neg h]
  congr 2
  exact toksF_more b _ _ _ _ (by omega) (by omega)
theorem toksA_end {b : List UInt8} {p i : Nat} (hp : b.length ≤ p) : toksA b p i = litT b i b.length := by
  unfold toksA
  rw [show b.length - p = 0 by omega]; rfl

/-! Places with the same key. -/
def keyAt (b : List UInt8) (p : Nat) : Option Nat :=
  match b[p]?, b[p + 1]?, b[p + 2]?, b[p + 3]? with
  | some a, some c, some d, some e => some (a.toNat + 256 * c.toNat + 65536 * d.toNat + 16777216 * e.toNat)
  | _, _, _, _ => none
/-- One more than the last place below j with that key, or 0. -/
def lastP (b : List UInt8) (k : Nat) : Nat → Nat
  | 0 => 0
  | j + 1 => if keyAt b j = some k then j + 1 else lastP b k j
theorem lastP_le (b : List UInt8) (k : Nat) : ∀ j, lastP b k j ≤ j
  | 0 => Nat.le_refl _
  | j + 1 => by
    unfold lastP
    split
    · omega
    · have := lastP_le b k j; omega
theorem lastP_key (b : List UInt8) (k : Nat) : ∀ j, lastP b k j ≠ 0 → keyAt b (lastP b k j - 1) = some k
  | 0, h => absurd rfl h
  | j + 1, h => by
    unfold lastP at h ⊢
    split
    · rename_i hk; simpa using hk
    · rename_i hk
      rw [if_neg hk] at h
      exact lastP_key b k j h
end Go.Bs
namespace Go.Proofs.YtlbffbkbkajciaaGreat
open Go.RowKit Go.Bs
set_option linter.unusedVariables false
set_option linter.unusedSimpArgs false

/-- One byte is as another one. -/
def same1 (b : List UInt8) (p q : Nat) : Bool := decide (p < b.length) && decide (b[p]? = b[q]?)
theorem same1_at {b : List UInt8} {p q : Nat} (hp : p < b.length) (hq : q < b.length) : same1 b p q = ((b[p].toNat : Int) == (b[q].toNat : Int)) := by
  unfold same1
  rw [decide_eq_true hp, Bool.true_and, List.getElem?_eq_getElem hp, List.getElem?_eq_getElem hq, Bool.eq_iff_iff]
  simp only [decide_eq_true_eq, Option.some.injEq, beq_iff_eq]
  constructor
  · intro h; rw [h]
  · intro h; exact UInt8.toNat_inj.1 (by omega)

set_option maxHeartbeats 800000 in
theorem ref14_same1 (b : List UInt8) (p q : Nat) (hq : q ≤ p) (a : Option Addr) (n c : Nat) (w : World) (hl : rBytes.r (· < w.heap.size) w [.slice a n c] b) (hp : p ≤ 4611686018427387904) :
    Calls Tryz.prog 278 #[.slice a n c, .int .i64 p, .int .i64 q, .int .i64 1] w fun r w' => r = .returned (.bool (same1 b p q)) ∧ Below w.heap.size w w' := by
  obtain ⟨rfl, hm, _, _⟩ := sl_len hl
  by_cases hlt : p < b.length
  · have hqt : q < b.length := by omega
    obtain ⟨g, o, hA, hg, hc⟩ := byte_at hl hlt
    obtain ⟨g', o', hA', hg', hc'⟩ := byte_at hl hqt
    rw [hA] at hA'
    simp only [Option.some.injEq, Addr.mk.injEq, and_true] at hA'
    obtain ⟨rfl, rfl⟩ := hA'
    subst hA
    have hff := hid (same1_at hlt hqt)
    generalize b[p] = x at *
    generalize b[q] = y at *
    have HL := hid hl; clear hl
    have d1 : decide ((b.length : Int) < (p : Int) + 1) = false := by simp; omega
    have d2 : decide ((b.length : Int) < (q : Int) + 1) = false := by simp; omega
    go_enter Tryz.func278, Tryz.ntmps278
    go_wp2_with fail
    refine wp_loop_rounds 2 ?_
    rw [rounds_succ]
    have C1 := fun s : Later w => s.cell hc
    have C2 := fun s : Later w => s.cell hc'
    cases he : ((x.toNat : Int) == (y.toNat : Int))
    · have e1 : ((x.toNat : Int) != (y.toNat : Int)) = true := by simp only [bne, he, Bool.not_false]
      rw [he] at hff
      clear he
      go_wp2_with fail
      refine wp_region_later (by kernel_rfl) (by kernel_rfl) ?_
      repeat (go_big_quiet_step (fail))
      refine wpQuiet_nil ?_
      rintro W5 ⟨⟨W5', hb5⟩, rfl⟩
      go_wp2
      go_ret
      exact ⟨by rw [hff.out]; rfl, hb5⟩
    · have e1 : ((x.toNat : Int) != (y.toNat : Int)) = false := by simp only [bne, he, Bool.not_true]
      rw [he] at hff
      clear he
      go_wp2_with fail
      refine wp_region_later (by kernel_rfl) (by kernel_rfl) ?_
      repeat (go_big_quiet_step (fail))
      refine wpQuiet_nil ?_
      rintro W5 ⟨⟨W5', hb5⟩, rfl⟩
      go_wp2_with fail
      rw [rounds_succ]
      go_wp2
      go_ret
      exact ⟨by rw [hff.out]; rfl, hb5⟩
  · have hff : Hid (same1 b p q = false) := hid (by simp [same1, hlt])
    clear hl
    go_enter Tryz.func278, Tryz.ntmps278
    go_wp2
    go_ret
    exact ⟨by rw [hff.out]; rfl, by (repeat (first | exact Below.refl _ _ | assumption | (refine below_alloc ?_ _) | (refine Below.setCell ?_ (by first | omega | (simp; done) | (simp; omega)) _) | (refine Below.drew ?_) | (refine below_drewN ?_ _) | (refine below_then (by assumption) ?_)))⟩
end Go.Proofs.YtlbffbkbkajciaaGreat
namespace Go.Proofs.YtlbffbkbkajciaaGreat
open Go.RowKit Go.Bs
set_option linter.unusedVariables false
set_option linter.unusedSimpArgs false

theorem ref14_same (b : List UInt8) (p q : Int) (h0 : 0 ≤ q) (hq : q ≤ p) (a : Option Addr) (n c : Nat) (w : World) (hl : rBytes.r (· < w.heap.size) w [.slice a n c] b) (hp : p ≤ 4611686018427387904) :
    Calls Tryz.prog 278 #[.slice a n c, .int .i64 p, .int .i64 q, .int .i64 1] w fun r w' => r = .returned (.bool (same1 b p.toNat q.toNat)) ∧ Below w.heap.size w w' := by
  obtain ⟨p', rfl⟩ := Int.eq_ofNat_of_zero_le (show 0 ≤ p by omega)
  obtain ⟨q', rfl⟩ := Int.eq_ofNat_of_zero_le h0
  exact ref14_same1 b p' q' (by omega) a n c w hl (by omega)

def mlenAt (b : List UInt8) (p off k : Nat) : Nat := k + runLen b off (b.length - p - k) (p + k)
theorem mlenAt_zero {b : List UInt8} {p off : Nat} (h : p < b.length ∧ 1 ≤ off ∧ off ≤ p) : mlen b p off = mlenAt b p off 0 := by
  unfold mlen mlenAt
  rw [if_pos h]; simp
theorem mlenAt_yes {b : List UInt8} {p off k : Nat} (h : same1 b (p + k) (p + k - off) = true) : mlenAt b p off k = mlenAt b p off (k + 1) ∧ p + k < b.length := by
  simp only [same1, Bool.and_eq_true, decide_eq_true_eq] at h
  refine ⟨?_, h.1⟩
  unfold mlenAt
  obtain ⟨f, hf⟩ : ∃ f, b.length - p - k = f + 1 := ⟨b.length - p - k - 1, by omega⟩
  rw [hf, show b.length - p - (k + 1) = f by omega]
  simp only [runLen]
  rw [if_pos h, show p + (k + 1) = p + k + 1 by omega]
  omega
theorem mlenAt_no {b : List UInt8} {p off k : Nat} (h : same1 b (p + k) (p + k - off) = false) : mlenAt b p off k = k := by
  unfold mlenAt
  rcases Nat.eq_zero_or_pos (b.length - p - k) with h0 | h0
  · rw [h0]; rfl
  · obtain ⟨f, hf⟩ : ∃ f, b.length - p - k = f + 1 := ⟨b.length - p - k - 1, by omega⟩
    rw [hf]
    simp only [runLen]
    rw [if_neg]
    · omega
    · rintro ⟨h1, h2⟩
      have : same1 b (p + k) (p + k - off) = true := by unfold same1; rw [decide_eq_true h1, decide_eq_true h2]; rfl
      rw [this] at h; cases h
theorem mlen_zero {b : List UInt8} {p off : Nat} (h : ¬ (p < b.length ∧ 1 ≤ off ∧ off ≤ p)) : mlen b p off = 0 := by
  unfold mlen; rw [if_neg h]

set_option maxHeartbeats 1600000 in
theorem ref14_match1 (b : List UInt8) (p off : Nat) (a : Option Addr) (n c : Nat) (w : World) (hl : rBytes.r (· < w.heap.size) w [.slice a n c] b) (hlen : b.length ≤ 1048576) (hp : p ≤ 1048576) (ho : off ≤ 1048577) :
    Calls Tryz.prog 270 #[.slice a n c, .int .i64 p, .int .i64 off] w fun r w' => r = .returned (.int .i64 (mlen b p off)) ∧ Below w.heap.size w w' := by
  obtain ⟨rfl, hm, _, _⟩ := sl_len hl
  have HL := hid hl; clear hl
  by_cases h1 : p < b.length
  · have d0 : decide ((p : Int) < 0) = false := by simp
    have d1 : decide ((b.length : Int) ≤ (p : Int)) = false := by simp; omega
    have d1' : decide (b.length ≤ p) = false := by simp; omega
    by_cases h2 : 1 ≤ off
    · have d2 : decide ((off : Int) < 1) = false := by simp; omega
      by_cases h3 : off ≤ p
      · have d3 : decide ((p : Int) < (off : Int)) = false := by simp; omega
        have d3' : decide (p < off) = false := by simp; omega
        have hff := hid (mlenAt_zero (off := off) ⟨h1, h2, h3⟩)
        go_enter Tryz.func270, Tryz.ntmps270
        go_wp2_with fail
        go_loopw [7] (fun i wr => ∃ k : Nat, k ≤ b.length - p ∧ i = .int .i64 k ∧ Hid (mlen b p off = mlenAt b p off k) ∧ Below w.heap.size w wr) (fun i _ => b.length - (intOf i).toNat)
        case atStart => exact ⟨0, Nat.zero_le _, rfl, hff, Below.refl _ _⟩
        case round =>
          obtain ⟨k, hk, rfl, hf, hb⟩ := hrel
          clear hff
          have d4 : decide ((k : Int) < 1048576) = true := by simp; omega
          have hS := ref14_same b ((p : Int) + (k : Int)) ((p : Int) + (k : Int) - (off : Int)) (by omega) (by omega) a b.length c wr (lift HL.out hb) (by omega)
          have e1 : ((p : Int) + (k : Int)).toNat = p + k := by omega
          have e2 : ((p : Int) + (k : Int) - (off : Int)).toNat = p + k - off := by omega
          rw [e1, e2] at hS
          clear e1 e2
          cases hs : same1 b (p + k) (p + k - off)
          · have hend := hid (mlenAt_no hs)
            rw [hs] at hS
            have HS := hid hS; clear hS hs
            go_wp2_with fail
            refine HS.out.mono ?_
            rintro r w2 ⟨rfl, hb2⟩
            go_wp2
            go_ret
            exact ⟨by rw [hf.out, hend.out]; rfl, below_then hb2 hb⟩
          · obtain ⟨hn, hlt⟩ := mlenAt_yes hs
            have HN := hid hn
            rw [hs] at hS
            have HS := hid hS; clear hS hs hn
            go_wp2_with fail
            refine HS.out.mono ?_
            rintro r w2 ⟨rfl, hb2⟩
            go_wp2
            go_roundw
            case rel => exact ⟨k + 1, by omega, by go_num, hid (by rw [hf.out, HN.out]), below_then hb2 hb⟩
            case measure => simp [intOf]; omega
      · have d3 : decide ((p : Int) < (off : Int)) = true := by simp; omega
        have hff := hid (mlen_zero (b := b) (p := p) (off := off) (by omega))
        go_enter Tryz.func270, Tryz.ntmps270
        go_wp2
        go_ret
        exact ⟨by rw [hff.out]; rfl, by (repeat (first | exact Below.refl _ _ | assumption | (refine below_alloc ?_ _) | (refine Below.setCell ?_ (by first | omega | (simp; done) | (simp; omega)) _) | (refine Below.drew ?_) | (refine below_drewN ?_ _) | (refine below_then (by assumption) ?_)))⟩
    · have d2 : decide ((off : Int) < 1) = true := by simp; omega
      have hff := hid (mlen_zero (b := b) (p := p) (off := off) (by omega))
      go_enter Tryz.func270, Tryz.ntmps270
      go_wp2
      go_ret
      exact ⟨by rw [hff.out]; rfl, by (repeat (first | exact Below.refl _ _ | assumption | (refine below_alloc ?_ _) | (refine Below.setCell ?_ (by first | omega | (simp; done) | (simp; omega)) _) | (refine Below.drew ?_) | (refine below_drewN ?_ _) | (refine below_then (by assumption) ?_)))⟩
  · have d1 : decide ((b.length : Int) ≤ (p : Int)) = true := by simp; omega
    have hff := hid (mlen_zero (b := b) (p := p) (off := off) (by omega))
    go_enter Tryz.func270, Tryz.ntmps270
    go_wp2
    go_ret
    exact ⟨by rw [hff.out]; rfl, by (repeat (first | exact Below.refl _ _ | assumption | (refine below_alloc ?_ _) | (refine Below.setCell ?_ (by first | omega | (simp; done) | (simp; omega)) _) | (refine Below.drew ?_) | (refine below_drewN ?_ _) | (refine below_then (by assumption) ?_)))⟩

theorem ref14_match (b : List UInt8) (p off : Int) (h0 : 0 ≤ p) (h1 : 0 ≤ off) (a : Option Addr) (n c : Nat) (w : World) (hl : rBytes.r (· < w.heap.size) w [.slice a n c] b) (hlen : b.length ≤ 1048576) (hp : p ≤ 1048576) (ho : off ≤ 1048577) :
    Calls Tryz.prog 270 #[.slice a n c, .int .i64 p, .int .i64 off] w fun r w' => r = .returned (.int .i64 (mlen b p.toNat off.toNat)) ∧ Below w.heap.size w w' := by
  obtain ⟨p', rfl⟩ := Int.eq_ofNat_of_zero_le h0
  obtain ⟨q', rfl⟩ := Int.eq_ofNat_of_zero_le h1
  exact ref14_match1 b p' q' a n c w hl hlen (by omega) (by omega)

set_option maxHeartbeats 1600000 in
theorem seek_match1 (b : List UInt8) (p off : Nat) (a : Option Addr) (n c : Nat) (w : World) (hl : rBytes.r (· < w.heap.size) w [.slice a n c] b) (hlen : b.length ≤ 1048576) (hp : p ≤ 1048576) (ho : off ≤ 1048577) :
    Calls Tryz.prog 275 #[.slice a n c, .int .i64 p, .int .i64 off] w fun r w' => r = .returned (.int .i64 (mlen b p off)) ∧ Below w.heap.size w w' := by
  obtain ⟨rfl, hm, _, _⟩ := sl_len hl
  by_cases h1 : p < b.length
  · have d0 : decide ((p : Int) < 0) = false := by simp
    have d1 : decide ((b.length : Int) ≤ (p : Int)) = false := by simp; omega
    have d1' : decide (b.length ≤ p) = false := by simp; omega
    by_cases h2 : 1 ≤ off
    · have d2 : decide ((off : Int) < 1) = false := by simp; omega
      by_cases h3 : off ≤ p
      · have d3 : decide ((p : Int) < (off : Int)) = false := by simp; omega
        have d3' : decide (p < off) = false := by simp; omega
        have hff := hid (mlenAt_zero (off := off) ⟨h1, h2, h3⟩)
        obtain ⟨g, o, hA, hg, _⟩ := byte_at hl h1
        subst hA
        have HL := hid hl; clear hl
        go_enter Tryz.func275, Tryz.ntmps275
        go_wp2_with fail
        go_loopw [7] (fun i wr => ∃ k : Nat, k ≤ b.length - p ∧ i = .int .i64 k ∧ Hid (mlen b p off = mlenAt b p off k) ∧ Below w.heap.size w wr) (fun i _ => b.length - (intOf i).toNat)
        case atStart => exact ⟨0, Nat.zero_le _, rfl, hff, Below.refl _ _⟩
        case round =>
          obtain ⟨k, hk, rfl, hf, hb⟩ := hrel
          clear hff
          have d4 : decide ((k : Int) < 1048576) = true := by simp; omega
          by_cases hlt : p + k < b.length
          · have d5 : decide ((p : Int) + (k : Int) < (b.length : Int)) = true := by simp; omega
            have hlq : p + k - off < b.length := by omega
            obtain ⟨g1, o1, hA1, _, hc⟩ := byte_at HL.out hlt
            obtain ⟨g2, o2, hA2, _, hc'⟩ := byte_at HL.out hlq
            simp only [Option.some.injEq, Addr.mk.injEq, and_true] at hA1 hA2
            obtain ⟨rfl, rfl⟩ := hA1
            obtain ⟨rfl, rfl⟩ := hA2
            have C1 := fun s : Later wr => s.cell ((hb.cell (p := ⟨g, o + (p + k), none⟩) hg).trans hc)
            have C2 := fun s : Later wr => s.cell ((hb.cell (p := ⟨g, o + (p + k - off), none⟩) hg).trans hc')
            have hsa := same1_at hlt hlq
            generalize b[p + k] = x at *
            generalize b[p + k - off] = y at *
            clear hc hc'
            have i1 : (0 : Int) ≤ (p : Int) + (k : Int) := by omega
            have i2 : (0 : Int) ≤ (p : Int) + (k : Int) - (off : Int) := by omega
            have i3 : (p : Int) + (k : Int) - (off : Int) < (b.length : Int) := by omega
            have i4 : (p : Int) + (k : Int) < (b.length : Int) := by omega
            have t1 : ((p : Int) + (k : Int)).toNat = p + k := by omega
            have t2 : ((p : Int) + (k : Int) - (off : Int)).toNat = p + k - off := by omega
            cases hs : same1 b (p + k) (p + k - off)
            · have hend := hid (mlenAt_no hs)
              rw [hs] at hsa
              have e1 : ((x.toNat : Int) == (y.toNat : Int)) = false := hsa.symm
              clear hs hsa
              go_wp2_with fail
              refine wp_region_later (by kernel_rfl) (by kernel_rfl) ?_
              repeat (go_big_quiet_step (fail))
              refine wpQuiet_nil ?_
              rintro W5 ⟨⟨W5', hb5⟩, rfl⟩
              go_wp2
              go_ret
              exact ⟨by rw [hf.out, hend.out]; rfl, below_then hb5 hb⟩
            · obtain ⟨hn, _⟩ := mlenAt_yes hs
              have HN := hid hn
              rw [hs] at hsa
              have e1 : ((x.toNat : Int) == (y.toNat : Int)) = true := hsa.symm
              clear hs hsa hn
              go_wp2_with fail
              refine wp_region_later (by kernel_rfl) (by kernel_rfl) ?_
              repeat (go_big_quiet_step (fail))
              refine wpQuiet_nil ?_
              rintro W5 ⟨⟨W5', hb5⟩, rfl⟩
              clear t1 t2
              go_wp2
              go_roundw
              case rel => exact ⟨k + 1, by omega, by go_num, hid (by rw [hf.out, HN.out]), below_then hb5 hb⟩
              case measure => simp [intOf]; omega
          · have d5 : decide ((p : Int) + (k : Int) < (b.length : Int)) = false := by simp; omega
            have hs : same1 b (p + k) (p + k - off) = false := by simp [same1, hlt]
            have hend := hid (mlenAt_no hs)
            clear hs
            go_wp2_with fail
            refine wp_region_later (by kernel_rfl) (by kernel_rfl) ?_
            repeat (go_big_quiet_step (fail))
            refine wpQuiet_nil ?_
            rintro W5 ⟨⟨W5', hb5⟩, rfl⟩
            go_wp2
            go_ret
            exact ⟨by rw [hf.out, hend.out]; rfl, below_then hb5 hb⟩
      · have d3 : decide ((p : Int) < (off : Int)) = true := by simp; omega
        have hff := hid (mlen_zero (b := b) (p := p) (off := off) (by omega))
        go_enter Tryz.func275, Tryz.ntmps275
        go_wp2
        go_ret
        exact ⟨by rw [hff.out]; rfl, by (repeat (first | exact Below.refl _ _ | assumption | (refine below_alloc ?_ _) | (refine Below.setCell ?_ (by first | omega | (simp; done) | (simp; omega)) _) | (refine Below.drew ?_) | (refine below_drewN ?_ _) | (refine below_then (by assumption) ?_)))⟩
    · have d2 : decide ((off : Int) < 1) = true := by simp; omega
      have hff := hid (mlen_zero (b := b) (p := p) (off := off) (by omega))
      go_enter Tryz.func275, Tryz.ntmps275
      go_wp2
      go_ret
      exact ⟨by rw [hff.out]; rfl, by (repeat (first | exact Below.refl _ _ | assumption | (refine below_alloc ?_ _) | (refine Below.setCell ?_ (by first | omega | (simp; done) | (simp; omega)) _) | (refine Below.drew ?_) | (refine below_drewN ?_ _) | (refine below_then (by assumption) ?_)))⟩
  · have d1 : decide ((b.length : Int) ≤ (p : Int)) = true := by simp; omega
    have hff := hid (mlen_zero (b := b) (p := p) (off := off) (by omega))
    go_enter Tryz.func275, Tryz.ntmps275
    go_wp2
    go_ret
    exact ⟨by rw [hff.out]; rfl, by (repeat (first | exact Below.refl _ _ | assumption | (refine below_alloc ?_ _) | (refine Below.setCell ?_ (by first | omega | (simp; done) | (simp; omega)) _) | (refine Below.drew ?_) | (refine below_drewN ?_ _) | (refine below_then (by assumption) ?_)))⟩
theorem seek_match (b : List UInt8) (p off : Int) (h0 : 0 ≤ p) (h1 : 0 ≤ off) (a : Option Addr) (n c : Nat) (w : World) (hl : rBytes.r (· < w.heap.size) w [.slice a n c] b) (hlen : b.length ≤ 1048576) (hp : p ≤ 1048576) (ho : off ≤ 1048577) :
    Calls Tryz.prog 275 #[.slice a n c, .int .i64 p, .int .i64 off] w fun r w' => r = .returned (.int .i64 (mlen b p.toNat off.toNat)) ∧ Below w.heap.size w w' := by
  obtain ⟨p', rfl⟩ := Int.eq_ofNat_of_zero_le h0
  obtain ⟨q', rfl⟩ := Int.eq_ofNat_of_zero_le h1
  exact seek_match1 b p' q' a n c w hl hlen (by omega) (by omega)

theorem seek_taken (o n : Int) (w : World) : Calls Tryz.prog 276 #[.int .i64 o, .int .i64 n] w fun r w' => r = .returned (.tuple #[.int .i64 (if n < 4 then 0 else o), .int .i64 (if n < 4 then 0 else n)]) ∧ w = w' := by
  by_cases h : n < 4
  · rw [if_pos h, if_pos h]
    have d1 : decide (n < 4) = true := by simpa using h
    clear h
    go_enter Tryz.func276, Tryz.ntmps276
    go_wp2
    go_ret2
    exact ⟨rfl, rfl⟩
  · rw [if_neg h, if_neg h]
    have d1 : decide (n < 4) = false := by simpa using h
    clear h
    go_enter Tryz.func276, Tryz.ntmps276
    go_wp2
    go_ret2
    exact ⟨rfl, rfl⟩
end Go.Proofs.YtlbffbkbkajciaaGreat
namespace Go.Proofs.YtlbffbkbkajciaaGreat
open Go.RowKit Go.Bs
set_option linter.unusedVariables false
set_option linter.unusedSimpArgs false

/-- From offset o on: the first one of the longest match, if it is long enough. -/
def bestAt (b : List UInt8) (p m f o : Nat) : Nat × Nat := if 4 ≤ m then (if firstM b p m f o = 0 then (0, 0) else (firstM b p m f o, m)) else (0, 0)
theorem bestAt_zero (b : List UInt8) (p : Nat) : bestR b p = bestAt b p (maxM b p (reach p)) (reach p) 1 := by
  unfold bestAt
  rcases bestR_facts b p with h | ⟨o, m, h, h1, h2, h4, hm, hall, hlt⟩
  · rw [h]
    by_cases h4 : 4 ≤ maxM b p (reach p)
    · have := h
      unfold bestR at this
      rw [if_pos h4] at this
      simp only [Prod.mk.injEq] at this
      omega
    · rw [if_neg h4]
  · have e : maxM b p (reach p) = m := by
      have g1 := maxM_ge b p (reach p) o h1 h2
      rcases maxM_is b p (reach p) with h | ⟨o', g1, g2, g3⟩
      · omega
      · have := hall o' g1 g2; omega
    have e2 : firstM b p m (reach p) 1 = o := firstM_is b p m _ 1 o h1 (by omega) hm fun j j1 j2 => by have := hlt j j1 j2; omega
    rw [h, e, if_pos h4, e2, if_neg (by omega)]
theorem bestAt_yes {b : List UInt8} {p m f o : Nat} (h4 : 4 ≤ m) (ho : 1 ≤ o) (h : mlen b p o = m) : bestAt b p m (f + 1) o = (o, m) := by
  have e : firstM b p m (f + 1) o = o := by simp [firstM, h]
  unfold bestAt
  rw [if_pos h4, e, if_neg (by omega)]
theorem bestAt_no {b : List UInt8} {p m f o : Nat} (h : ¬ (4 ≤ m ∧ mlen b p o = m)) : bestAt b p m (f + 1) o = bestAt b p m f (o + 1) := by
  unfold bestAt
  by_cases h4 : 4 ≤ m
  · have e : firstM b p m (f + 1) o = firstM b p m f (o + 1) := by
      simp only [firstM]
      rw [if_neg (fun e => h ⟨h4, e⟩)]
    rw [e]
  · rw [if_neg h4, if_neg h4]
theorem bestAt_end (b : List UInt8) (p m o : Nat) : bestAt b p m 0 o = (0, 0) := by
  unfold bestAt
  split <;> simp [firstM]

set_option maxHeartbeats 3200000 in
theorem ref14_best1 (b : List UInt8) (p : Nat) (a : Option Addr) (n c : Nat) (w : World) (hl : rBytes.r (· < w.heap.size) w [.slice a n c] b) (hlen : b.length ≤ 1048576) :
    Calls Tryz.prog 253 #[.slice a n c, .int .i64 p] w fun r w' => r = .returned (.tuple #[.int .i64 (bestR b p).1, .int .i64 (bestR b p).2]) ∧ Below w.heap.size w w' := by
  obtain ⟨rfl, hm, _, _⟩ := sl_len hl
  have HL := hid hl; clear hl
  have d0 : decide ((p : Int) < 0) = false := by simp
  by_cases h1 : p < b.length
  · have d1 : decide ((b.length : Int) ≤ (p : Int)) = false := by simp; omega
    have d1' : decide (b.length ≤ p) = false := by simp; omega
    have hff := hid (bestAt_zero b p)
    go_enter Tryz.func253, Tryz.ntmps253
    go_wp2_with fail
    go_loopw [6, 7] (fun m i wr => ∃ k : Nat, k ≤ reach p ∧ i = .int .i64 (k + 1 : Nat) ∧ m = .int .i64 (maxM b p k) ∧ Below w.heap.size w wr) (fun _ i _ => p + 1 - (intOf i).toNat)
    case atStart => exact ⟨0, Nat.zero_le _, rfl, rfl, Below.refl _ _⟩
    case round =>
      obtain ⟨k, hk, rfl, rfl, hb⟩ := hrel
      have hrp : reach p ≤ p ∧ reach p ≤ 65536 := by unfold reach; omega
      by_cases hlt : k < reach p
      · have d2 : decide (((k + 1 : Nat) : Int) ≤ (p : Int)) = true := by simp; omega
        have d3 : decide (((k + 1 : Nat) : Int) ≤ 65536) = true := by simp; omega
        have d2' : decide ((k + 1 : Nat) ≤ p) = true := by simp; omega
        have d2'' : decide ((k : Int) + 1 ≤ (p : Int)) = true := by simp; omega
        have d3'' : decide ((k : Int) + 1 ≤ 65536) = true := by simp; omega
        have hM := ref14_match b (p : Int) ((k + 1 : Nat) : Int) (by omega) (by omega) a b.length c wr (lift HL.out hb) hlen (by omega) (by omega)
        rw [Int.toNat_natCast, Int.toNat_natCast] at hM
        have HM := hid hM; clear hM
        go_wp2_with fail
        refine HM.out.mono ?_
        rintro r w2 ⟨rfl, hb2⟩
        have e1 : max (maxM b p k : Int) (mlen b p (k + 1) : Int) = (maxM b p (k + 1) : Nat) := by simp only [maxM]; omega
        go_wp2
        go_roundw
        case rel => exact ⟨k + 1, by omega, by go_num, (by have : (if maxM b p k < mlen b p (k + 1) then (mlen b p (k + 1) : Int) else (maxM b p k : Int)) = ((maxM b p (k + 1) : Nat) : Int) := (by simp only [maxM]; split <;> omega); rw [this]), below_then hb2 hb⟩
        case measure => simp [intOf]; omega
      · obtain rfl : k = reach p := by omega
        have hbw := hb
        have hexit : (decide ((reach p : Int) + 1 ≤ (p : Int)) = false) ∨ (decide ((reach p : Int) + 1 ≤ (p : Int)) = true ∧ decide ((reach p : Int) + 1 ≤ 65536) = false) := by
          unfold reach
          by_cases h6 : p ≤ 65536
          · left; simp; omega
          · right; constructor <;> simp <;> omega
        generalize hM : maxM b p (reach p) = M at *
        generalize hR : reach p = R at *
        have HM := hid hM; have HR := hid hR; clear hM hR
        rcases hexit with d2 | ⟨d2, d3⟩
        all_goals
          go_wp2_with fail
          go_loopw [4, 5, 8] (fun _ _ i wr => ∃ k : Nat, k ≤ R ∧ i = .int .i64 (k + 1 : Nat) ∧ Hid (bestR b p = bestAt b p M (R - k) (k + 1)) ∧ Below w.heap.size w wr) (fun _ _ i _ => p + 1 - (intOf i).toNat)
          case atStart => exact ⟨0, Nat.zero_le _, rfl, hff, hbw⟩
          case round =>
            obtain ⟨j, hj, rfl, hf, hb⟩ := hrel
            clear hff hbw
            by_cases hlt : j < R
            · have d4 : decide ((j : Int) + 1 ≤ (p : Int)) = true := by simp; omega
              have d5 : decide ((j : Int) + 1 ≤ 65536) = true := by simp; omega
              obtain ⟨f, hfe⟩ : ∃ f, R - j = f + 1 := ⟨R - j - 1, by omega⟩
              by_cases h4 : 4 ≤ M
              · have d6 : decide ((4 : Int) ≤ (M : Int)) = true := by simp; omega
                have hMc := ref14_match b (p : Int) ((j + 1 : Nat) : Int) (by omega) (by omega) a b.length c wr (lift HL.out hb) hlen (by omega) (by omega)
                rw [Int.toNat_natCast, Int.toNat_natCast] at hMc
                by_cases he : mlen b p (j + 1) = M
                · have hend : Hid (bestR b p = (j + 1, M)) := hid (by rw [hf.out, hfe, bestAt_yes h4 (by omega) he])
                  rw [he] at hMc
                  have HMc := hid hMc; clear hMc he hfe
                  have e1 : ((M : Int) == (M : Int)) = true := by simp
                  go_wp2_with fail
                  refine HMc.out.mono ?_
                  rintro r w2 ⟨rfl, hb2⟩
                  go_wp2
                  go_ret2
                  exact ⟨by rw [hend.out]; rfl, below_then hb2 hb⟩
                · have hend : Hid (bestR b p = bestAt b p M (R - (j + 1)) (j + 1 + 1)) := hid (by rw [hf.out, hfe, bestAt_no (fun e => he e.2), show R - (j + 1) = f by omega])
                  generalize mlen b p (j + 1) = m at *
                  have HMc := hid hMc; clear hMc hfe
                  have e1 : ((m : Int) == (M : Int)) = false := by simp; omega
                  have e2 : (m == M) = false := by simp; omega
                  clear he
                  have e3 : decide (m = M) = false := by simp; simpa using e2
                  go_wp2_with fail
                  refine HMc.out.mono ?_
                  rintro r w2 ⟨rfl, hb2⟩
                  go_wp2
                  go_roundw
                  case rel => (repeat apply Exists.intro); refine ⟨?_, ?_⟩; rotate_left; rfl; exact ⟨j + 1, by omega, by go_num, hend, below_then hb2 hb⟩
                  case measure => simp [intOf]; omega
              · have d6 : decide ((4 : Int) ≤ (M : Int)) = false := by simp; omega
                have hend : Hid (bestR b p = bestAt b p M (R - (j + 1)) (j + 1 + 1)) := hid (by rw [hf.out, hfe, bestAt_no (fun e => h4 e.1), show R - (j + 1) = f by omega])
                clear hfe
                go_wp2
                go_roundw
                case rel => exact ⟨j + 1, by omega, by go_num, hend, hb⟩
                case measure => simp [intOf]; omega
            · obtain rfl : j = R := by omega
              have hend : Hid (bestR b p = (0, 0)) := hid (by rw [hf.out, Nat.sub_self, bestAt_end])
              go_wp2
              go_ret2
              exact ⟨by rw [hend.out]; rfl, hb⟩
  · have d1 : decide ((b.length : Int) ≤ (p : Int)) = true := by simp; omega
    have d1' : decide (b.length ≤ p) = true := by simp; omega
    have hff : Hid (bestR b p = (0, 0)) := hid (bestR_none fun j _ _ => by have := mlen_le b p j; omega)
    go_enter Tryz.func253, Tryz.ntmps253
    go_wp2
    go_ret2
    exact ⟨by rw [hff.out]; rfl, by (repeat (first | exact Below.refl _ _ | assumption | (refine below_alloc ?_ _) | (refine Below.setCell ?_ (by first | omega | (simp; done) | (simp; omega)) _) | (refine Below.drew ?_) | (refine below_drewN ?_ _) | (refine below_then (by assumption) ?_)))⟩
end Go.Proofs.YtlbffbkbkajciaaGreat
namespace Go.Proofs.YtlbffbkbkajciaaGreat
open Go.RowKit Go.Bs
set_option linter.unusedVariables false
set_option linter.unusedSimpArgs false

theorem bits_or_u32_nat (a b : Nat) (ha : a < 4294967296) (hb : b < 4294967296) : bits .or .u32 (a : Int) (b : Int) = ((a ||| b : Nat) : Int) := by
  have hx : a ||| b < 2 ^ 32 := Nat.or_lt_two_pow (by omega) (by omega)
  have h1 : (BitVec.ofInt 32 (a : Int)).toNat = a := by
    rw [BitVec.ofInt_natCast, BitVec.toNat_ofNat]; exact Nat.mod_eq_of_lt (by omega)
  have h2 : (BitVec.ofInt 32 (b : Int)).toNat = b := by
    rw [BitVec.ofInt_natCast, BitVec.toNat_ofNat]; exact Nat.mod_eq_of_lt (by omega)
  show IntKind.u32.wrap ((BitVec.ofInt 32 (a : Int) ||| BitVec.ofInt 32 (b : Int)).toNat : Int) = _
  rw [BitVec.toNat_or, h1, h2, IntKind.wrap_u32]
  omega
/-- Digits that do not meet are added. -/
theorem or_add (a c k : Nat) (h : a < 2 ^ k) : a ||| (c * 2 ^ k) = a + c * 2 ^ k := by
  rw [Nat.or_comm, ← Nat.shiftLeft_eq, ← Nat.shiftLeft_add_eq_or_of_lt h, Nat.add_comm]
theorem or_u32 (a c k m : Nat) (hm : 2 ^ k = m) (h : a < m) (hc : c * m < 4294967296) (ha : a < 4294967296) : bits .or .u32 (a : Int) ((c : Int) * (m : Int)) = (a : Int) + c * m := by
  have e : ((c : Int) * (m : Int)) = ((c * m : Nat) : Int) := by simp
  rw [e, bits_or_u32_nat a (c * m) ha hc, ← hm, or_add a c k (by rw [hm]; exact h)]
  simp
theorem key_bits (x0 x1 x2 x3 : UInt8) : bits .or .u32 (bits .or .u32 (bits .or .u32 (bits .or .u32 0 ((x0.toNat : Int) % 4294967296)) ((x1.toNat : Int) % 4294967296 * 256 % 4294967296)) ((x2.toNat : Int) % 4294967296 * 65536 % 4294967296)) ((x3.toNat : Int) % 4294967296 * 16777216 % 4294967296) = ((x0.toNat + 256 * x1.toNat + 65536 * x2.toNat + 16777216 * x3.toNat : Nat) : Int) := by
  have h0 := x0.toNat_lt; have h1 := x1.toNat_lt; have h2 := x2.toNat_lt; have h3 := x3.toNat_lt
  have e0 : (x0.toNat : Int) % 4294967296 = ((x0.toNat : Nat) : Int) * ((1 : Nat) : Int) := by omega
  have e1 : (x1.toNat : Int) % 4294967296 * 256 % 4294967296 = (x1.toNat : Int) * ((256 : Nat) : Int) := by omega
  have e2 : (x2.toNat : Int) % 4294967296 * 65536 % 4294967296 = (x2.toNat : Int) * ((65536 : Nat) : Int) := by omega
  have e3 : (x3.toNat : Int) % 4294967296 * 16777216 % 4294967296 = (x3.toNat : Int) * ((16777216 : Nat) : Int) := by omega
  have ez : (0 : Int) = ((0 : Nat) : Int) := rfl
  rw [e0, e1, e2, e3, ez, or_u32 0 x0.toNat 0 1 (by decide) (by omega) (by omega) (by omega)]
  have f0 : ((0 : Nat) : Int) + (x0.toNat : Int) * ((1 : Nat) : Int) = ((x0.toNat : Nat) : Int) := by omega
  rw [f0, or_u32 x0.toNat x1.toNat 8 256 (by decide) (by omega) (by omega) (by omega)]
  have f1 : (x0.toNat : Int) + (x1.toNat : Int) * ((256 : Nat) : Int) = ((x0.toNat + 256 * x1.toNat : Nat) : Int) := by omega
  rw [f1, or_u32 (x0.toNat + 256 * x1.toNat) x2.toNat 16 65536 (by decide) (by omega) (by omega) (by omega)]
  have f2 : ((x0.toNat + 256 * x1.toNat : Nat) : Int) + (x2.toNat : Int) * ((65536 : Nat) : Int) = ((x0.toNat + 256 * x1.toNat + 65536 * x2.toNat : Nat) : Int) := by omega
  rw [f2, or_u32 (x0.toNat + 256 * x1.toNat + 65536 * x2.toNat) x3.toNat 24 16777216 (by decide) (by omega) (by omega) (by omega)]
  omega
/-- What the key is. -/
def keyV (b : List UInt8) (p : Nat) : Int × Bool := match keyAt b p with | some k => (k, true) | none => (0, false)
theorem keyV_some {b : List UInt8} {p : Nat} (hp : p + 4 ≤ b.length) : keyAt b p = some (b[p].toNat + 256 * b[p + 1].toNat + 65536 * b[p + 2].toNat + 16777216 * b[p + 3].toNat) := by
  unfold keyAt
  rw [List.getElem?_eq_getElem (show p < b.length by omega), List.getElem?_eq_getElem (show p + 1 < b.length by omega), List.getElem?_eq_getElem (show p + 2 < b.length by omega), List.getElem?_eq_getElem (show p + 3 < b.length by omega)]
theorem keyV_none {b : List UInt8} {p : Nat} (hp : b.length < p + 4) : keyAt b p = none := by
  unfold keyAt
  rw [List.getElem?_eq_none (show b.length ≤ p + 3 by omega)]
  split <;> simp_all

set_option maxHeartbeats 1600000 in
theorem chain_key1 (b : List UInt8) (p : Nat) (a : Option Addr) (n c : Nat) (w : World) (hl : rBytes.r (· < w.heap.size) w [.slice a n c] b) (hlen : b.length ≤ 1048576) (hp : p + 4 ≤ b.length) :
    Calls Tryz.prog 282 #[.slice a n c, .int .i64 p] w fun r w' => r = .returned (.tuple #[.int .u32 (keyV b p).1, .bool (keyV b p).2]) ∧ w = w' := by
  have hff : Hid (keyV b p = (((b[p].toNat + 256 * b[p + 1].toNat + 65536 * b[p + 2].toNat + 16777216 * b[p + 3].toNat : Nat) : Int), true)) := hid (by unfold keyV; rw [keyV_some hp])
  obtain ⟨rfl, hm, _, _⟩ := sl_len hl
  obtain ⟨g, o, hA, hg, c0⟩ := byte_at hl (i := p) (by omega)
  obtain ⟨g1, o1, hA1, _, c1⟩ := byte_at hl (i := p + 1) (by omega)
  obtain ⟨g2, o2, hA2, _, c2⟩ := byte_at hl (i := p + 2) (by omega)
  obtain ⟨g3, o3, hA3, _, c3⟩ := byte_at hl (i := p + 3) (by omega)
  subst hA
  simp only [Option.some.injEq, Addr.mk.injEq, and_true] at hA1 hA2 hA3
  obtain ⟨rfl, rfl⟩ := hA1
  obtain ⟨rfl, rfl⟩ := hA2
  obtain ⟨rfl, rfl⟩ := hA3
  have HL := hid hl; clear hl
  have d0 : decide ((p : Int) < 0) = false := by simp
  have d1 : decide ((b.length : Int) - 4 < (p : Int)) = false := by simp; omega
  generalize b[p] = x0 at *
  generalize b[p + 1] = x1 at *
  generalize b[p + 2] = x2 at *
  generalize b[p + 3] = x3 at *
  have i0 : (0 : Int) ≤ (p : Int) := by omega
  have i1 : (p : Int) + 3 < (b.length : Int) := by omega
  have i2 : (p : Int) + 2 < (b.length : Int) := by omega
  have i3 : (p : Int) + 1 < (b.length : Int) := by omega
  have i4 : (p : Int) < (b.length : Int) := by omega
  go_enter Tryz.func282, Tryz.ntmps282
  go_wp2_with fail
  refine wp_loop_rounds 5 ?_
  rw [rounds_succ]
  go_wp2_with fail
  rw [rounds_succ]
  go_wp2_with fail
  rw [rounds_succ]
  go_wp2_with fail
  rw [rounds_succ]
  go_wp2_with fail
  rw [rounds_succ]
  go_wp2_with fail
  go_ret2
  exact ⟨by rw [hff.out, ← key_bits]; rfl, rfl⟩
theorem chain_key0 (b : List UInt8) (p : Nat) (a : Option Addr) (n c : Nat) (w : World) (hl : rBytes.r (· < w.heap.size) w [.slice a n c] b) (hlen : b.length ≤ 1048576) (hp : b.length < p + 4) (hp2 : p ≤ 1048576) :
    Calls Tryz.prog 282 #[.slice a n c, .int .i64 p] w fun r w' => r = .returned (.tuple #[.int .u32 (keyV b p).1, .bool (keyV b p).2]) ∧ w = w' := by
  have hff : Hid (keyV b p = (0, false)) := hid (by unfold keyV; rw [keyV_none hp])
  obtain ⟨rfl, hm, _, _⟩ := sl_len hl
  clear hl
  have d0 : decide ((p : Int) < 0) = false := by simp
  have d1 : decide ((b.length : Int) - 4 < (p : Int)) = true := by simp; omega
  go_enter Tryz.func282, Tryz.ntmps282
  go_wp2
  go_ret2
  exact ⟨by rw [hff.out]; rfl, rfl⟩
theorem chain_key (b : List UInt8) (p : Nat) (a : Option Addr) (n c : Nat) (w : World) (hl : rBytes.r (· < w.heap.size) w [.slice a n c] b) (hlen : b.length ≤ 1048576) (hp : p ≤ 1048576) :
    Calls Tryz.prog 282 #[.slice a n c, .int .i64 p] w fun r w' => r = .returned (.tuple #[.int .u32 (keyV b p).1, .bool (keyV b p).2]) ∧ w = w' := by
  by_cases h : p + 4 ≤ b.length
  · exact chain_key1 b p a n c w hl hlen h
  · exact chain_key0 b p a n c w hl hlen (by omega) hp
end Go.Proofs.YtlbffbkbkajciaaGreat
namespace Go.Bs
open Go.RowKit
set_option linter.unusedVariables false

/-- w' is w but for blocks of F, and new ones. -/
structure Tch (F : Nat → Prop) (w w' : World) : Prop where
  os : w'.os = w.os
  tape : w'.tape = w.tape
  output : w'.output = w.output
  size : w.heap.size ≤ w'.heap.size
  block : ∀ b, b < w.heap.size → ¬ F b → w'.heap[b]? = w.heap[b]?
section
variable {F G : Nat → Prop} {w w' w'' : World}
theorem Tch.refl (F : Nat → Prop) (w : World) : Tch F w w := ⟨rfl, rfl, rfl, Nat.le_refl _, fun _ _ _ => rfl⟩
theorem Tch.trans (h : Tch F w w') (k : Tch G w' w'') (hG : ∀ b, b < w.heap.size → G b → F b) : Tch F w w'' :=
  ⟨k.os.trans h.os, k.tape.trans h.tape, k.output.trans h.output, Nat.le_trans h.size k.size, fun b hb hF => (k.block b (Nat.lt_of_lt_of_le hb h.size) (fun hg => hF (hG b hb hg))).trans (h.block b hb hF)⟩
theorem Tch.mono (h : Tch F w w') (hF : ∀ b, b < w.heap.size → F b → G b) : Tch G w w' := ⟨h.os, h.tape, h.output, h.size, fun b hb hg => h.block b hb (fun hf => hg (hF b hb hf))⟩
theorem Tch.of_later (h : Below w.heap.size w w') : Tch F w w' := ⟨h.os, h.tape, h.output, h.size, fun b hb _ => h.block b hb⟩
theorem Tch.of_grown {row : Option Nat} (h : w.grownBy w' row) : Tch (fun b => row = some b) w w' := ⟨h.os, h.tape, h.output, h.size, fun b hb hf => h.block b hb (fun e => hf e.symm)⟩
theorem Tch.alloc (h : Tch F w w') (o : Obj) : Tch F w (w'.alloc o) := h.trans (Tch.of_later (F := F) ((Below.refl _ _).alloc (Nat.le_refl _) o)) fun _ _ h => h
theorem Tch.drew (h : Tch F w w') : Tch F w w'.drew := ⟨h.os, h.tape, h.output, h.size, h.block⟩
theorem Tch.drewN (h : Tch F w w') (n : Nat) : Tch F w (w'.drewN n) := ⟨h.os, h.tape, h.output, h.size, h.block⟩
theorem Tch.setCell (h : Tch F w w') {p : Addr} (hp : p.block < w.heap.size → F p.block) (u : Value) : Tch F w (w'.setCell p u) :=
  ⟨h.os, h.tape, h.output, by simpa [World.setCell] using h.size, fun b hb hf => (Below.heap_setCell w' p u b (fun e => hf (e ▸ hp (e ▸ hb)))).trans (h.block b hb hf)⟩
theorem Tch.below {B : Nat} (h : Tch F w w') (hF : ∀ b, b < w.heap.size → F b → B ≤ b) : Below B w w' ∨ w.heap.size < B := by
  by_cases hB : B ≤ w.heap.size
  · exact .inl ⟨h.os, h.tape, h.output, h.size, fun b hb => h.block b (by omega) (fun hf => by have := hF b (by omega) hf; omega)⟩
  · exact .inr (by omega)
theorem Tch.to_below {B : Nat} (h : Tch F w w') (hB : B ≤ w.heap.size) (hF : ∀ b, b < w.heap.size → F b → B ≤ b) : Below B w w' := (h.below hF).resolve_right (by omega)
theorem Tch.cell (h : Tch F w w') {p : Addr} (hb : p.block < w.heap.size) (hf : ¬ F p.block) : w'.cell? p = w.cell? p := World.cell?_of_block (h.block _ hb hf)
theorem Tch.frozen (h : Tch F w w') {p : Addr} (hb : p.block < w.heap.size) (hf : ¬ F p.block) : w'.frozen? p = w.frozen? p := World.frozen?_of_block (h.block _ hb hf)
theorem Blk.tch {g : Nat} {t : TypeId} {cs : Array Value} (h : Blk w g t cs) (k : Tch F w w') (hf : ¬ F g) : Blk w' g t cs := (k.block g h.lt hf).trans h
theorem src_new1 {w : World} (W : World) (e : TypeId) (cs : List Value) (hB : w = W.alloc (.cells cs.toArray e)) {g : Nat} (hg : g = W.heap.size) {sz : Nat} (hs : cs.length = sz) : Src w (some ⟨g, 0, none⟩) 1 sz cs := by
  subst hB hg
  refine ⟨by omega, .inr ⟨_, 0, rfl, fun j u hu => ?_⟩⟩
  rw [Nat.zero_add, Blk.cell (Blk.new W e cs.toArray)]
  simpa using hu
end
end Go.Bs
namespace Go.Proofs.YtlbffbkbkajciaaGreat
open Go.RowKit Go.Bs Go.Maps
set_option linter.unusedVariables false
set_option linter.unusedSimpArgs false

def prevN (b : List UInt8) (j : Nat) : Nat := match keyAt b j with | some k => lastP b k j | none => 0
def prevs (b : List UInt8) (n : Nat) : List Value := (List.range n).map fun j => .int .i64 (prevN b j : Int)
theorem prevs_succ (b : List UInt8) (n : Nat) : prevs b (n + 1) = prevs b n ++ [.int .i64 (prevN b n : Int)] := by simp [prevs, List.range_succ]
theorem prevs_length (b : List UInt8) (n : Nat) : (prevs b n).length = n := by simp [prevs]
def LastsAt (D : DataW Unit) (b : List UInt8) (n : Nat) : Prop := ∀ k : Nat, k < 4294967296 → D.atKey (.int .u32 (k : Int)) (.lit (.int .i64 0)) = .lit (.int .i64 (lastP b k n : Int))
theorem u32_wf {k : Nat} (h : k < 4294967296) : (Lit.int .u32 (k : Int)).wf = true := by
  simp [Lit.wf, IntKind.min, IntKind.max, IntKind.signed, IntKind.bits]; omega
theorem keyAt_lt {b : List UInt8} {p k : Nat} (h : keyAt b p = some k) : k < 4294967296 := by
  by_cases hp : p + 4 ≤ b.length
  · rw [keyV_some hp] at h
    have h0 := b[p].toNat_lt; have h1 := b[p + 1].toNat_lt; have h2 := b[p + 2].toNat_lt; have h3 := b[p + 3].toNat_lt
    simp only [Option.some.injEq] at h
    omega
  · rw [keyV_none (by omega)] at h; cases h
theorem LastsAt.none {D : DataW Unit} {b : List UInt8} {n : Nat} (h : LastsAt D b n) (hk : keyAt b n = none) : LastsAt D b (n + 1) := fun k hlt => by
  rw [h k hlt]
  simp only [lastP]
  rw [hk, if_neg (by simp)]
theorem LastsAt.some {D : DataW Unit} {b : List UInt8} {n k : Nat} (h : LastsAt D b n) (hD : IsMap D) (hk : keyAt b n = some k) : LastsAt (D.put (.int .u32 (k : Int)) (.lit (.int .i64 ((n : Int) + 1)))) b (n + 1) := fun k' hlt => by
  by_cases e : k' = k
  · subst e
    rw [atKey_put_same hD (by trivial)]
    simp only [lastP]
    rw [if_pos hk]; simp
  · rw [atKey_put_other (by simp; omega), h k' hlt]
    simp only [lastP]
    rw [if_neg (by rw [hk]; simp; omega)]

/-- Block g is a chain of the bytes b to which n places were added. -/
structure ChAt (w : World) (g mb base : Nat) (b : List UInt8) (n : Nat) (ab : Option Addr) (cb : Nat) (ap : Option Addr) (cp : Nat) : Prop where
  blk : Blk w g 268 #[.slice ab b.length cb, .map (some mb), .slice ap n cp]
  bytes : rBytes.r (fun q => q < w.heap.size ∧ q ≠ g ∧ q ≠ mb ∧ (Value.slice ap n cp).ownBlock ≠ some q) w [.slice ab b.length cb] b
  map : ∃ D : DataW Unit, w.ownsMap Tryz.prog 67 (plainElem Tryz.prog 3) mb n D ∧ LastsAt D b n
  prev : w.ownsRow base 3 1 (.slice ap n cp) n (prevs b n)
  ne1 : g ≠ mb
  ne2 : (Value.slice ap n cp).ownBlock ≠ some g
  ne3 : (Value.slice ap n cp).ownBlock ≠ some mb
  lo : base ≤ g
  le : n ≤ b.length
  len : b.length ≤ 1048576
theorem infoInt : (Tryz.prog.info? 3).map (fun i => (i.zero, i.size, i.bytes)) = some (some (.int .i64 0), 1, 8) := by kernel_rfl
theorem zeroInt (w : World) : (zeroValue 3).run Tryz.prog w = .ok (.int .i64 0) w := by kernel_rfl
theorem lawU32 : Keyed Tryz.prog 67 := int_keyed Tryz.underlying67

theorem chain_added (w : World) {g mb base : Nat} {b : List UInt8} {n : Nat} {ab : Option Addr} {cb : Nat} {ap : Option Addr} {cp : Nat} (h : ChAt w g mb base b n ab cb ap cp) :
    Calls Tryz.prog 279 #[.pointer (some ⟨g, 0, none⟩)] w fun r w' => r = .returned (.int .i64 n) ∧ w = w' := by
  have c2 : w.cell? ⟨g, 2, none⟩ = some (.slice ap n cp) := h.blk.cell 2
  clear h
  go_enter Tryz.func279, Tryz.ntmps279
  go_wp2
  go_ret
  exact ⟨rfl, rfl⟩

/-- What an Add leaves. -/
def ChStep (w : World) (g mb base : Nat) (b : List UInt8) (n n' : Nat) (ab : Option Addr) (cb : Nat) (ap : Option Addr) (cp : Nat) (w' : World) : Prop :=
  ∃ ap' cp', ChAt w' g mb base b n' ab cb ap' cp' ∧ Tch (fun q => q = g ∨ q = mb ∨ (Value.slice ap n cp).ownBlock = some q) w w' ∧ ((Value.slice ap' n' cp').ownBlock = (Value.slice ap n cp).ownBlock ∨ ∃ q, (Value.slice ap' n' cp').ownBlock = some q ∧ w.heap.size ≤ q)
def AddPost (w : World) (g mb base : Nat) (b : List UInt8) (n : Nat) (ab : Option Addr) (cb : Nat) (ap : Option Addr) (cp : Nat) (r : Ending) (w' : World) : Prop := r = .returned (.bool true) ∧ ChStep w g mb base b n (n + 1) ab cb ap cp w'

theorem map_keep {w w' : World} {K : TypeId} {R : Value → Option (DataW Unit × List MemPlace)} {m n : Nat} {D : DataW Unit} (h : w.ownsMap Tryz.prog K R m n D) (e : w'.heap[m]? = w.heap[m]?) : w'.ownsMap Tryz.prog K R m n D := by
  obtain ⟨es, clock, hb, F, hs, hD⟩ := h
  exact ⟨es, clock, e.trans hb, F, hs, hD⟩
theorem own_keep {w w' : World} {base : Nat} {e : TypeId} {size : Nat} {v : Value} {n : Nat} {xs : List Value} (h : w.ownsRow base e size v n xs) (hv : ∀ g, v.ownBlock = some g → w'.heap[g]? = w.heap[g]?) : w'.ownsRow base e size v n xs := by
  refine ⟨h.1, ?_⟩
  rcases h.2 with h0 | ⟨g, cap, cur, h1, h2, h3, h4⟩
  · exact .inl h0
  · exact .inr ⟨g, cap, cur, h1, h2, by rw [hv g (by rw [h1]; rfl)]; exact h3, h4⟩
theorem ch_next {w w0 w1 : World} {g mb base : Nat} {b : List UInt8} {n : Nat} {ab : Option Addr} {cb : Nat} {ap : Option Addr} {cp : Nat} {a' : Option Addr} {c' : Nat} {o : Obj} (h : ChAt w g mb base b n ab cb ap cp) (hn : n < b.length) (h0 : Tch (fun q => q = mb) w w0)
    (hmap : ∃ D : DataW Unit, w0.ownsMap Tryz.prog 67 (plainElem Tryz.prog 3) mb (n + 1) D ∧ LastsAt D b (n + 1))
    (hown : w1.ownsRow base 3 1 (.slice a' (n + 1) c') (n + 1) (prevs b n ++ [.int .i64 (prevN b n : Int)])) (hgrow : (w0.alloc o).grownBy w1 (Value.slice ap n cp).ownBlock)
    (hat : (Value.slice a' (n + 1) c').ownBlock = (Value.slice ap n cp).ownBlock ∨ (Value.slice a' (n + 1) c').ownBlock = some (w0.alloc o).heap.size) :
    ChStep w g mb base b n (n + 1) ab cb ap cp (w1.setCell ⟨g, 2, none⟩ (.slice a' (n + 1) c')) := by
  have hg := h.blk.lt
  have hs0 := h0.size
  have hs1 : w0.heap.size + 1 ≤ w1.heap.size := by have := hgrow.size; simpa using this
  have hn2 : (Value.slice a' (n + 1) c').ownBlock ≠ some g := fun e => by
    rcases hat with h1 | h1
    · rw [h1] at e; exact h.ne2 e
    · rw [h1] at e; simp at e; omega
  have hmlt : mb < w0.heap.size := by obtain ⟨D, hD, _⟩ := hmap; exact hD.lt
  have keep : ∀ q, q < w0.heap.size → q ≠ g → (Value.slice ap n cp).ownBlock ≠ some q → (w1.setCell ⟨g, 2, none⟩ (.slice a' (n + 1) c')).heap[q]? = w0.heap[q]? := fun q hq h1 h2 =>
    (Below.heap_setCell w1 _ _ q h1).trans ((hgrow.block q (by simp; omega) (fun e => h2 e.symm)).trans (Below.heap_alloc w0 _ q hq))
  have hsz : (w1.setCell ⟨g, 2, none⟩ (.slice a' (n + 1) c')).heap.size = w1.heap.size := by simp [World.setCell]
  refine ⟨a', c', ⟨?_, ?_, ?_, ?_, h.ne1, hn2, fun e => ?_, h.lo, by omega, h.len⟩, ?_, ?_⟩
  · have B0 := h.blk.tch h0 h.ne1
    have B1 : Blk w1 g _ _ := (B0.alloc o).grown hgrow (fun e => h.ne2 e.symm)
    exact B1.set 2 _
  · refine rBytes.mono (rBytes.keep h.bytes fun q hq => (keep q (by omega) hq.2.1 hq.2.2.2).trans (h0.block q hq.1 hq.2.2.1)) fun q hq => ⟨by rw [hsz]; omega, hq.2.1, hq.2.2.1, fun e => ?_⟩
    rcases hat with h1 | h1
    · rw [h1] at e; exact hq.2.2.2 e
    · rw [h1] at e; simp at e; omega
  · obtain ⟨D, hD, hL⟩ := hmap
    exact ⟨D, map_keep hD (keep mb hmlt (Ne.symm h.ne1) h.ne3), hL⟩
  · rw [prevs_succ]
    exact own_keep hown fun q hq => Below.heap_setCell w1 _ _ q (fun e => hn2 (by rw [hq, e]))
  · rcases hat with h1 | h1
    · rw [h1] at e; exact h.ne3 e
    · rw [h1] at e; simp at e; omega
  · exact ⟨hgrow.os.trans h0.os, hgrow.tape.trans h0.tape, hgrow.output.trans h0.output, by rw [hsz]; omega, fun q hq hf => (keep q (by omega) (fun e => hf (.inl e)) (fun e => hf (.inr (.inr e)))).trans (h0.block q hq (fun e => hf (.inr (.inl e))))⟩
  · rcases hat with h1 | h1
    · exact .inl h1
    · exact .inr ⟨_, h1, by simp; omega⟩

set_option maxRecDepth 100000 in
set_option maxHeartbeats 1600000 in
theorem chain_add (w : World) {g mb base : Nat} {b : List UInt8} {n : Nat} {ab : Option Addr} {cb : Nat} {ap : Option Addr} {cp : Nat} (h : ChAt w g mb base b n ab cb ap cp) (hn : n < b.length) :
    Calls Tryz.prog 280 #[.pointer (some ⟨g, 0, none⟩)] w (AddPost w g mb base b n ab cb ap cp) := by
  have hbk := h.blk
  have c0 : w.cell? ⟨g, 0, none⟩ = some (.slice ab b.length cb) := h.blk.cell 0
  have c1 : w.cell? ⟨g, 1, none⟩ = some (.map (some mb)) := h.blk.cell 1
  have c2 : w.cell? ⟨g, 2, none⟩ = some (.slice ap n cp) := h.blk.cell 2
  have f2 := h.blk.free 2
  have hg := h.blk.lt
  obtain ⟨D, hmap, hD⟩ := h.map
  have hprev := h.prev
  obtain ⟨ne1, ne2, ne3⟩ : g ≠ mb ∧ (Value.slice ap n cp).ownBlock ≠ some g ∧ (Value.slice ap n cp).ownBlock ≠ some mb := ⟨h.ne1, h.ne2, h.ne3⟩
  have hlen := h.len
  have hlo := h.lo
  have hA := chain_added w h
  have hK := chain_key b n ab _ cb w (rBytes.mono h.bytes fun q hq => hq.1) h.len (by omega)
  obtain ⟨i0, hi, hz0, hz1, hz2⟩ := info_parts infoInt
  have HH := hid h; have HM := hid hmap; have HD := hid hD; have HP := hid hprev; have HB := hid hbk
  have HA := hid hA; have HKE := hid hK
  clear h hmap hD hprev hA hK hbk
  have hkv : Hid (keyV b n = match keyAt b n with | some k => ((k : Int), true) | none => (0, false)) := hid rfl
  have d1 : decide ((b.length : Int) ≤ (n : Int)) = false := by simp; omega
  have d1' : decide (b.length ≤ n) = false := by simp; omega
  cases hk : keyAt b n with
  | none =>
    have hv : keyV b n = (0, false) := by rw [hkv.out, hk]
    rw [hv] at HKE
    have hpn : prevN b n = 0 := by unfold prevN; rw [hk]
    have HK := hid hk; have HPN := hid hpn
    clear hk hv hkv hpn
    go_enter Tryz.func280, Tryz.ntmps280
    go_wp2_with fail
    refine HA.out.mono ?_
    rintro r w1 ⟨rfl, rfl⟩
    go_wp2_with fail
    refine HKE.out.mono ?_
    rintro r w1 ⟨rfl, rfl⟩
    go_wp2_with (at_builtin; go_loud (refine wpList_append_src rfl _ _ _ rfl base 3 i0 (.int .i64 0) 1 8 Tryz.underlying266 hi hz0 hz1 hz2 rfl (by decide) (.slice ap n cp) n _ rfl (HP.out.alloc _) (some ⟨w.heap.size, 0, none⟩) 1 1 [.int .i64 0] rfl (src_new1 w 3 _ rfl rfl rfl) (by intro u hu; simp at hu; subst hu; rfl) (by simp only [maxLen]; omega) (by omega) (by simp; omega) ?_; intro v' w1 hown1 hgrow1 hat1; obtain ⟨a', c', rfl⟩ := own_form hown1; have G := fun q (hq : q < w.heap.size) (hne : (Value.slice ap n cp).ownBlock ≠ some q) => (hgrow1.block q (by simp; omega) (fun e => hne e.symm)).trans (Below.heap_alloc w _ q hq); have hB := HB.out.later (Below.refl _ _); have g2 := (World.frozen?_of_block (a := ⟨g, 2, none⟩) (G g hg ne2)).trans f2; have e2 := (World.cell?_of_block (a := ⟨g, 2, none⟩) (G g hg ne2)).trans c2; have hz1 : g < w1.heap.size := Nat.lt_of_lt_of_le hg (Nat.le_trans (by simp) hgrow1.size); have HG := hid hgrow1; have HO := hid hown1; have HAT := hid hat1; have HGG := hid G; clear hgrow1 hown1 hat1 G hB))
    have hst := ch_next HH.out hn (Tch.refl _ w) (by
      obtain ⟨D, h1, h2⟩ := HH.out.map
      exact ⟨D, h1.mono (Nat.le_succ n), h2.none HK.out⟩) (by rw [HPN.out]; exact HO.out) HG.out HAT.out
    have HST := hid hst; clear hst
    go_ret
    exact ⟨rfl, HST.out⟩
  | some k =>
    have hv : keyV b n = ((k : Int), true) := by rw [hkv.out, hk]
    rw [hv] at HKE
    have hpn : prevN b n = lastP b k n := by unfold prevN; rw [hk]
    have hklt := keyAt_lt hk
    have HK := hid hk; have HPN := hid hpn
    have HW := hid (u32_wf hklt)
    clear hk hv hkv hpn hklt
    go_enter Tryz.func280, Tryz.ntmps280
    go_wp2_with fail
    refine HA.out.mono ?_
    rintro r w1 ⟨rfl, rfl⟩
    go_wp2_with fail
    refine HKE.out.mono ?_
    rintro r w1 ⟨rfl, rfl⟩
    have HWF : Hid ((Lit.int .i64 ((n : Int) + 1)).wf = true) := hid (by simp [Lit.wf, IntKind.min, IntKind.max, IntKind.signed, IntKind.bits]; omega)
    go_wp2_with (first
      | (at_lookup; go_loud (refine wpList_lookup_own_int _ rfl _ _ 265 rfl 67 3 .i64 lawU32 Tryz.underlying265 Tryz.underlying3 (zeroInt _) mb n D rfl HM.out _ _ rfl (keyOf_int_mk Tryz.underlying67 HW.out) ?_; intro c hat hwc; have hc : c = (lastP b k n : Int) := (by have := HD.out k (by have := HW.out; simp [Lit.wf, IntKind.max, IntKind.signed, IntKind.bits] at this; omega); rw [hat] at this; simpa using this); subst hc; clear hat hwc))
      | (at_mapUpdate; go_loud (refine wpList_mapUpdate_own _ rfl _ _ _ 265 rfl 67 3 lawU32 Tryz.underlying265 _ mb n _ rfl HM.out (by unfold maxLen; omega) _ _ _ rfl rfl (keyOf_int_mk Tryz.underlying67 HW.out) _ [] (plainElem_int Tryz.underlying3 HWF.out) ?_; intro w2 hown2 hgrow2; have hnm : some g ≠ some mb := fun e => ne1 (Option.some.inj e); have hg2 : g < w2.heap.size := Nat.lt_of_lt_of_le hg hgrow2.size; have c2b := (World.cell?_of_block (a := ⟨g, 2, none⟩) (hgrow2.block g hg hnm)).trans c2; have f2b := (World.frozen?_of_block (a := ⟨g, 2, none⟩) (hgrow2.block g hg hnm)).trans f2; have HP2 := hid (own_keep (w' := w2) HP.out fun q hq => hgrow2.block q (HP.out.lt q hq).2 (fun e => ne3 (hq.trans e))); have HG2 := hid hgrow2; have HM2 := hid hown2; clear hown2 hgrow2 hnm))
      | (at_builtin; go_loud (refine wpList_append_src rfl _ _ _ rfl base 3 i0 (.int .i64 0) 1 8 Tryz.underlying266 hi hz0 hz1 hz2 rfl (by decide) (.slice ap n cp) n _ rfl (HP2.out.alloc _) (some ⟨w2.heap.size, 0, none⟩) 1 1 [.int .i64 (lastP b k n : Int)] rfl (src_new1 w2 3 _ rfl rfl rfl) (by intro u hu; simp at hu; subst hu; rfl) (by simp only [maxLen]; omega) (by omega) (by simp; omega) ?_; intro v' w1 hown1 hgrow1 hat1; obtain ⟨a', c', rfl⟩ := own_form hown1; have G := fun q (hq : q < w2.heap.size) (hne : (Value.slice ap n cp).ownBlock ≠ some q) => (hgrow1.block q (by simp; omega) (fun e => hne e.symm)).trans (Below.heap_alloc w2 _ q hq); have g2 := (World.frozen?_of_block (a := ⟨g, 2, none⟩) (G g hg2 ne2)).trans f2b; have e2 := (World.cell?_of_block (a := ⟨g, 2, none⟩) (G g hg2 ne2)).trans c2b; have hz1 : g < w1.heap.size := Nat.lt_of_lt_of_le hg2 (Nat.le_trans (by simp) hgrow1.size); have HG := hid hgrow1; have HO := hid hown1; have HAT := hid hat1; have HGG := hid G; clear hgrow1 hown1 hat1 G)))
    have hst := ch_next HH.out hn ((Tch.of_grown HG2.out).mono fun q _ e => (Option.some.inj e).symm) ⟨_, HM2.out, HD.out.some HM.out.isMap HK.out⟩ (by rw [HPN.out]; exact HO.out) HG.out HAT.out
    have HST := hid hst; clear hst
    go_ret
    exact ⟨rfl, HST.out⟩
end Go.Proofs.YtlbffbkbkajciaaGreat
namespace Go.Proofs.YtlbffbkbkajciaaGreat
open Go.RowKit Go.Bs Go.Maps
set_option linter.unusedVariables false
set_option linter.unusedSimpArgs false

theorem ChStep.trans {w w1 w2 : World} {g mb base : Nat} {b : List UInt8} {n m k : Nat} {ab : Option Addr} {cb : Nat} {ap a1 : Option Addr} {cp c1 : Nat} (h : Tch (fun q => q = g ∨ q = mb ∨ (Value.slice ap n cp).ownBlock = some q) w w1)
    (ho : (Value.slice a1 m c1).ownBlock = (Value.slice ap n cp).ownBlock ∨ ∃ q, (Value.slice a1 m c1).ownBlock = some q ∧ w.heap.size ≤ q) (k' : ChStep w1 g mb base b m k ab cb a1 c1 w2) : ChStep w g mb base b n k ab cb ap cp w2 := by
  obtain ⟨a2, c2, h1, h2, h3⟩ := k'
  refine ⟨a2, c2, h1, h.trans h2 fun q hq e => ?_, ?_⟩
  · rcases e with e | e | e
    · exact .inl e
    · exact .inr (.inl e)
    · rcases ho with ho | ⟨q', hq', hlt⟩
      · exact .inr (.inr (ho ▸ e))
      · rw [hq'] at e; have := Option.some.inj e; omega
  · rcases h3 with h3 | ⟨q', hq', hlt⟩
    · rcases ho with ho | ⟨q', hq', hlt⟩
      · exact .inl (h3.trans ho)
      · exact .inr ⟨q', h3.trans hq', hlt⟩
    · exact .inr ⟨q', hq', Nat.le_trans h.size hlt⟩
theorem ChStep.refl {w : World} {g mb base : Nat} {b : List UInt8} {n : Nat} {ab : Option Addr} {cb : Nat} {ap : Option Addr} {cp : Nat} (h : ChAt w g mb base b n ab cb ap cp) : ChStep w g mb base b n n ab cb ap cp w := ⟨ap, cp, h, Tch.refl _ _, .inl rfl⟩
def AddToPost (w : World) (g mb base : Nat) (b : List UInt8) (n m : Nat) (ab : Option Addr) (cb : Nat) (ap : Option Addr) (cp : Nat) (r : Ending) (w' : World) : Prop := r = .returned (.int .i64 ((m : Int) - n)) ∧ ChStep w g mb base b n m ab cb ap cp w'

set_option maxRecDepth 100000 in
set_option maxHeartbeats 1600000 in
theorem chain_addTo (w : World) {g mb base : Nat} {b : List UInt8} {n : Nat} {ab : Option Addr} {cb : Nat} {ap : Option Addr} {cp : Nat} (h : ChAt w g mb base b n ab cb ap cp) (m : Nat) (hn : n ≤ m) (hm : m ≤ b.length) :
    Calls Tryz.prog 273 #[.pointer (some ⟨g, 0, none⟩), .int .i64 m] w (AddToPost w g mb base b n m ab cb ap cp) := by
  have hlen := h.len
  have HS := hid (ChStep.refl h)
  clear h
  go_enter Tryz.func273, Tryz.ntmps273
  go_wp2_with fail
  go_loopw [5] (fun i wr => ∃ k : Nat, n + k ≤ m ∧ i = .int .i64 k ∧ Hid (ChStep w g mb base b n (n + k) ab cb ap cp wr)) (fun i _ => m - (intOf i).toNat)
  case atStart => exact ⟨0, hn, rfl, HS⟩
  case round =>
    obtain ⟨k, hk, rfl, hst⟩ := hrel
    clear HS
    obtain ⟨a1, c1, h1, h2, h3⟩ := hst.out
    have HA := hid (chain_added wr h1)
    have HT := hid h2; have HO := hid h3; have H1 := hid h1
    clear h1 h2 h3
    by_cases hlt : n + k < m
    · have hAdd := hid (chain_add wr H1.out (by omega))
      have d1 : decide (((n + k : Nat) : Int) < (m : Int)) = true := by simp; omega
      have d2 : decide ((n : Int) + (k : Int) < (m : Int)) = true := by simp; omega
      have d3 : decide (n + k < m) = true := by simp; omega
      go_wp2_with fail
      refine HA.out.mono ?_
      rintro r w1 ⟨rfl, rfl⟩
      go_wp2_with fail
      refine hAdd.out.mono ?_
      rintro r w1 ⟨rfl, hs1⟩
      have HS1 := hid (ChStep.trans HT.out HO.out hs1)
      clear hs1
      go_wp2
      go_roundw
      case rel => first | exact ⟨k + 1, by omega, by go_num, HS1⟩ | ((repeat apply Exists.intro); refine ⟨?_, ?_⟩; rotate_left; rfl; exact ⟨k + 1, by omega, by go_num, HS1⟩)
      case measure => simp [intOf]; omega
    · obtain rfl : m = n + k := by omega
      have d1 : decide (((n + k : Nat) : Int) < ((n + k : Nat) : Int)) = false := by simp
      have d2 : decide ((n : Int) + (k : Int) < (n : Int) + (k : Int)) = false := by simp
      have hff : Hid (((n + k : Nat) : Int) - (n : Int) = (k : Int)) := hid (by omega)
      go_wp2_with fail
      refine HA.out.mono ?_
      rintro r w1 ⟨rfl, rfl⟩
      go_wp2
      go_ret
      exact ⟨by rw [hff.out]; rfl, hst.out⟩
end Go.Proofs.YtlbffbkbkajciaaGreat
namespace Go.Bs
open Go.RowKit
set_option linter.unusedVariables false

def noDefer (o : Oper) : Bool := match o.op with | .defer _ => false | _ => true
section
variable {F : Fence} {n : Nat} {P : Program} {ops : Array Oper} {md : Region.Mode} {C : World → Prop}
theorem noDefer_spec {o : Oper} (h : noDefer o = true) : ∀ c, o.op ≠ .defer c := fun c e => by
  unfold noDefer at h
  rw [e] at h
  cases h
theorem wpIn_of_quiet_r {o : Oper} {a : Act} {K : Act → Prop} {K' : Act → World → Prop} {Q' : Exit → Act → World → Prop} {w : World} (hd : noDefer o = true) (hw : C w) (h : ∀ a w', C w' → K a → K' a w')
    (ha : o.askedIn F P a C) (hh : o.quietIn F n P a C K) : o.wpIn F n P a w K' Q' := by
  obtain ⟨v, h1, h2⟩ := hh
  have h3 := h1 w hw
  unfold Oper.quietAtIn at h3
  unfold Oper.wpIn
  refine ⟨ha w hw, ?_⟩
  rw [Oper.semAt_eq _ _ _ (noDefer_spec hd)]
  generalize (execOp a.eval o).run P w = r at *
  cases r with
  | ok x w' =>
    cases x <;> simp only [Oper.quietUponIn] at h3 <;> simp only [Oper.uponIn]
    case value u =>
      obtain ⟨e1, e2⟩ := h3
      rw [e1, e2]
      exact h _ _ hw h2
    case skip =>
      obtain ⟨e1, e2⟩ := h3
      rw [e1, ← e2]
      exact h _ _ hw h2
    case enter f args =>
      obtain ⟨e1, hd, hc⟩ := h3
      rw [e1]
      exact ⟨hd, hc.mono fun e w'' ⟨he, hw''⟩ => by subst he; exact h _ _ hw'' h2⟩
  | halt x w' => simp only [Oper.quietUponIn] at h3
theorem wpOpIn_of_qOpIn_r {i : Nat} {a : Act} {K : Act → Prop} {K' : Act → World → Prop} {Q' : Exit → Act → World → Prop} {w : World} (hd : ops.all noDefer = true) (hC : C w) (h : ∀ a w', C w' → K a → K' a w')
    (hh : qOpIn F n P ops C i K a) : wpOpIn F n P ops Q' i K' a w := by
  unfold qOpIn at hh
  unfold wpOpIn
  split
  · rename_i ho; simp only [ho] at hh; exact h _ _ hC hh
  · rename_i o ho
    have hdo : noDefer o = true := by
      have := Array.all_eq_true'.1 hd o (Array.mem_of_getElem? ho)
      exact this
    simp only [ho] at hh
    obtain ⟨ha, hh⟩ := hh
    split
    · rename_i hw; simp only [hw, if_true] at hh; exact wpIn_of_quiet_r hdo hC h ha hh
    · rename_i hw; simp only [hw] at hh; exact ⟨ha w hC, h _ _ hC hh⟩
theorem wpAnyIn_of_quiet_r {Q : Act → Prop} {Q' : Exit → Act → World → Prop} (hd : ops.all noDefer = true) (hQ : ∀ a w, C w → Q a → Q' .normal a w) : ∀ (fuel : Nat) (listed : Array Bool) (a : Act) (w : World), C w →
    wpAnyQIn F n P md ops C Q fuel listed a → wpAnyIn F n P md ops Q' fuel listed a w
  | 0, _, _, _, hw, h => ⟨h.1, hQ _ _ hw h.2⟩
  | fuel + 1, _, _, _, hw, h => ⟨fun h0 => hQ _ _ hw (h.1 h0), fun i hi => wpOpIn_of_qOpIn_r hd hw (fun a' w' hw' => wpAnyIn_of_quiet_r hd hQ fuel _ a' w' hw') (h.2 i hi)⟩
theorem wpIn_region_round {id : Nat} {Q : Exit → Act → World → Prop} {a : Act} {w : World} {l : List Oper} (C : World → Prop) (hm : P.follows .mixedOrders = true) (hd : l.toArray.all noDefer = true) (hB : Region.lexB .any l.toArray = true) (hC : C w.drew)
    (h : wpQuietIn F n P l.toArray C (fun a' => ∀ w', C w' → Q .normal a' w') l a) : (Code.region id l.toArray true).wpIn F n P Q a w := by
  simp only [Region.lexB, Bool.and_eq_true] at hB
  refine wpIn_region_any hm (wpAnyIn_of_quiet_r (Q := fun a' => ∀ w', C w' → Q .normal a' w') hd (fun _ w' hw' h => h w' hw') _ _ _ _ hC ?_)
  have := wpAnyQIn_lex (F := F) (n := n) (C := C) (md := .any) hB.1 l 0 (Array.replicate l.toArray.size false) a (by simp) (by simpa using hB.2) h
  simpa using this
theorem wpIn_region_rlater {id : Nat} {Q : Exit → Act → World → Prop} {a : Act} {w : World} {l : List Oper} (hm : P.follows .mixedOrders = true) (hd : l.toArray.all noDefer = true) (hB : Region.lexB .any l.toArray = true)
    (h : wpQuietIn F n P l.toArray (fun w' => ∃ s : Later w, w' = s.at_) (fun a' => ∀ w', (∃ s : Later w, w' = s.at_) → Q .normal a' w') l a) : (Code.region id l.toArray true).wpIn F n P Q a w :=
  wpIn_region_round _ hm hd hB ⟨⟨w.drew, (Below.refl _ _).drew⟩, rfl⟩ h
theorem wpIn_region_rdrawn {id : Nat} {Q : Exit → Act → World → Prop} {a : Act} {w : World} {l : List Oper} (hm : P.follows .mixedOrders = true) (hd : l.toArray.all noDefer = true) (hB : Region.lexB .any l.toArray = true)
    (h : wpQuietIn F n P l.toArray (fun w' => ∃ n, w' = w.drewN n) (fun a' => ∀ w', (∃ n, w' = w.drewN n) → Q .normal a' w') l a) : (Code.region id l.toArray true).wpIn F n P Q a w :=
  wpIn_region_round _ hm hd hB ⟨1, rfl⟩ h
theorem wide_d {p : Prop} (h : Fence.wide.depth.isSome = true) : p := by simp [Fence.wide] at h
theorem laterIn_of {n : Nat} {f : FuncId} {args : Array Value} {w : World} {s : Later w} {v : Value} {l : Nat}
    (h : Calls P f args s.at_ fun e w' => e = .returned v ∧ Below s.at_.heap.size s.at_ w') : CallsIn (Fence.wide.inRound l) n P f args s.at_ fun e w'' => e = .returned v ∧ ∃ s' : Later w, w'' = s'.at_ :=
  CallsIn.inRound l (callsIn_wide.2 (later_of h))
theorem wp_region_still_drew {id : Nat} {Q : Exit → Act → World → Prop} {a : Act} {w : World} {l : List Oper} (n : Nat) (hm : P.follows .mixedOrders = true) (hB : Region.lexTailB .any l.toArray n = true)
    (h : wpStill P l.toArray w.drew (fun a' => wpList P l.toArray Q (l.drop n) a' w.drew) (l.take n) a) : (Code.region id l.toArray true).wp P Q a w := wp_region_still_tail n hm hB h
theorem wpIn_world {c : Code} {Q : Exit → Act → World → Prop} {a : Act} {w : World} (G : World → Prop) (hG : G w) (h : ∀ W, G W → c.wpIn F n P Q a W) : c.wpIn F n P Q a w := h w hG
theorem keepsFrom_tch {B : Nat} {G : Nat → Prop} {W W' : World} (h : Tch G W W') (hF : ∀ q, G q → q < B) : KeepsFrom B W W' :=
  ⟨h.size, fun k o hB hk _ => (h.block k (Array.getElem?_eq_some_iff.1 hk).1 (fun e => by have := hF k e; omega)).trans hk⟩
end
end Go.Bs
namespace Go.Proofs.YtlbffbkbkajciaaGreat
open Go.RowKit Go.Bs Go.Maps Go.Shelf
set_option linter.unusedVariables false
set_option linter.unusedSimpArgs false

def plcF (b : List UInt8) (k m : Nat) : Nat → List (Fin m)
  | 0 => []
  | j + 1 => if h : j < m then (if keyAt b j = some k then ⟨j, h⟩ :: plcF b k m j else plcF b k m j) else plcF b k m j
theorem plcF_none (b : List UInt8) (k m : Nat) : ∀ j, lastP b k j = 0 → plcF b k m j = []
  | 0, _ => rfl
  | j + 1, h => by
    simp only [lastP] at h
    split at h
    · omega
    · rename_i hk
      have ih := plcF_none b k m j h
      simp only [plcF]
      split
      · first | exact ih | (rw [if_neg hk]; exact ih)
      · exact ih
theorem plcF_some (b : List UInt8) (k m : Nat) : ∀ (j i : Nat) (hi : i < m), lastP b k j = i + 1 → plcF b k m j = ⟨i, hi⟩ :: plcF b k m i
  | 0, i, hi, h => by simp [lastP] at h
  | j + 1, i, hi, h => by
    simp only [lastP] at h
    split at h
    · rename_i hk
      obtain rfl : j = i := by omega
      simp only [plcF]
      rw [dif_pos hi, if_pos hk]
    · rename_i hk
      have ih := plcF_some b k m j i hi h
      simp only [plcF]
      split
      · first | exact ih | (rw [if_neg hk]; exact ih)
      · exact ih
def near (p : Nat) (q : Fin p) : Bool := decide (p - q.val ≤ 65536)
def placesOf (b : List UInt8) (p : Nat) : List (Fin p) := match keyAt b p with | none => [] | some k => (plcF b k p p).takeWhile (near p)
theorem lastP_next (b : List UInt8) (k j i : Nat) (h : lastP b k j = i + 1) : keyAt b i = some k ∧ i < j := by
  have h1 := lastP_key b k j (by omega)
  have h2 := lastP_le b k j
  rw [h] at h1 h2
  exact ⟨by simpa using h1, by omega⟩
theorem prevN_next {b : List UInt8} {k i : Nat} (h : keyAt b i = some k) : prevN b i = lastP b k i := by unfold prevN; rw [h]

theorem own_row_at {w : World} {base : Nat} {e : TypeId} {v : Value} {n : Nat} {xs : List Value} (h : w.ownsRow base e 1 v n xs) {i : Nat} {u : Value} (hi : xs[i]? = some u) (hn : n = xs.length) : ∃ gp c, v = .slice (some ⟨gp, 0, none⟩) n c ∧ w.cell? ⟨gp, i, none⟩ = some u ∧ gp < w.heap.size := by
  have hlt := (List.getElem?_eq_some_iff.1 hi).1
  rcases h.2 with ⟨_, h0⟩ | ⟨g, cap, cur, h1, h2, h3, h4, h5, h6, h7⟩
  · omega
  · refine ⟨g, cap, h1, ?_, (Array.getElem?_eq_some_iff.1 h3).1⟩
    rw [Blk.cell h3 i]
    have e1 : cur[i]? = (cur.toList.take (n * 1))[i]? := by
      rw [List.getElem?_take, if_pos (by omega)]; simp
    rw [e1, h7]; exact hi
theorem prevs_at {b : List UInt8} {n i : Nat} (h : i < n) : (prevs b n)[i]? = some (.int .i64 (prevN b i : Int)) := by simp [prevs, h]

/-- What the iterator reads lies as it lay. -/
def KpC (Q : Nat → Prop) (w w' : World) : Prop := ∀ q, Q q → w'.heap[q]? = w.heap[q]?
theorem KpC.trans {Q : Nat → Prop} {w w' w'' : World} (h : KpC Q w w') (k : KpC Q w' w'') : KpC Q w w'' := fun q hq => (k q hq).trans (h q hq)
theorem drew_grown (w : World) (n : Nat) : w.grownBy (w.drewN n) none := ⟨rfl, rfl, rfl, Nat.le_refl _, fun _ _ _ => rfl⟩

set_option maxRecDepth 100000 in
set_option maxHeartbeats 3200000 in
theorem places_stops (w : World) {g mb base : Nat} {b : List UInt8} {p : Nat} {ab : Option Addr} {cb : Nat} {ap : Option Addr} {cp : Nat} {bc ba n : Nat} (h : ChAt w g mb base b p ab cb ap cp) (hc : Blk w bc 256 #[.pointer (some ⟨g, 0, none⟩)]) (ha : Blk w ba 3 #[.int .i64 (p : Int)]) :
    SeqStopsK Fence.wide n Tryz.prog 281 #[.pointer (some ⟨bc, 0, none⟩), .pointer (some ⟨ba, 0, none⟩)] (fun x : Fin p => #[.int .i64 (x.val : Int)]) (KpC fun q => q = g ∨ q = mb ∨ (Value.slice ap p cp).ownBlock = some q ∨ q = bc ∨ q = ba)
      (fun xs => xs = placesOf b p) (fun pre => pre <+: placesOf b p) (placesOf b p).length w := by
  intro l J Jx W hW hJ hJx hY h0
  have hlen := h.len
  have hle := h.le
  have hK0 : KpC (fun q => q = g ∨ q = mb ∨ (Value.slice ap p cp).ownBlock = some q ∨ q = bc ∨ q = ba) w W := fun q hq => by
    rcases hq with rfl | rfl | hq | rfl | rfl
    · exact hW.block _ h.blk.lt
    · obtain ⟨D, hD, _⟩ := h.map; exact hW.block _ hD.lt
    · exact hW.block _ (h.prev.lt _ hq).2
    · exact hW.block _ hc.lt
    · exact hW.block _ ha.lt
  have hkey := fun (nq : Nat) => chain_key b p ab b.length cb (W.drewN nq) (rBytes.mono (rBytes.keep h.bytes fun q hq => hW.block q hq.1) fun q hq => Nat.lt_of_lt_of_le hq.1 hW.size) hlen (by omega)
  have hg0 := h.blk; have hmap := h.map; have hprev := h.prev
  have HG0 := hid hg0; have HMAP := hid hmap; have HPREV := hid hprev; have HC := hid hc; have HAA := hid ha
  have HY := hid hY; have HJ := hid hJ; have HJX := hid hJx
  have HWs := hid hW
  have HKEY := hid hkey
  clear h hg0 hmap hprev hc ha hY hJ hJx hW hkey
  have c1 : W.cell? ⟨bc, 0, none⟩ = some (.pointer (some ⟨g, 0, none⟩)) := (Blk.later HC.out HWs.out).cell 0
  have c2 : W.cell? ⟨ba, 0, none⟩ = some (.int .i64 (p : Int)) := (Blk.later HAA.out HWs.out).cell 0
  have c3 : W.cell? ⟨g, 0, none⟩ = some (.slice ab b.length cb) := (Blk.later HG0.out HWs.out).cell 0
  have c4 : W.cell? ⟨g, 1, none⟩ = some (.map (some mb)) := (Blk.later HG0.out HWs.out).cell 1
  refine callsIn_of_wp Tryz.func281 rfl trivial ?_ rfl
  simp only [Tryz.ntmps281, List.size_toArray, List.length_cons, List.length_nil, Nat.reduceAdd, Nat.reduceSub, Array.replicate_succ, Array.replicate_zero, List.push_toArray, List.append_toArray, List.nil_append, List.cons_append]
  have hfw : ∀ f, Fence.wide.fn f = True := fun _ => rfl
  gi_wp2
  refine wpIn_region_rdrawn (by kernel_rfl) (by kernel_rfl) (by kernel_rfl) ?_
  repeat (gi_big_quiet_step ((refine ⟨wide_d, callsIn_wide.2 ((HKEY.out _).mono fun e w' ⟨he, hw⟩ => ⟨he, _, hw.symm⟩)⟩)))
  refine wpQuietIn_nil ?_
  intro _ hw'
  obtain ⟨nq, rfl⟩ := hw'
  have h1 : Hid (J [] (W.drewN nq)) := hid (HJ.out [] W _ none h0 (drew_grown W nq) (fun r e => by cases e))
  have hkv : Hid (keyV b p = match keyAt b p with | some k => ((k : Int), true) | none => (0, false)) := hid rfl
  have hpo : Hid (placesOf b p = match keyAt b p with | none => [] | some k => (plcF b k p p).takeWhile (near p)) := hid rfl
  cases hk : keyAt b p with
  | none =>
    have hv : keyV b p = (0, false) := by rw [hkv.out, hk]
    have hp0 : Hid (placesOf b p = []) := hid (by rw [hpo.out, hk])
    rw [hv]
    clear hv hk hkv hpo
    gi_wp2
    refine bodyPost_ret (results_none rfl _ _ _) rfl ?_
    exact ⟨⟨_, rfl⟩, .inl ⟨[], hp0.out.symm, h1.out⟩⟩
  | some k =>
    have hv : keyV b p = ((k : Int), true) := by rw [hkv.out, hk]
    have hp0 : Hid (placesOf b p = (plcF b k p p).takeWhile (near p)) := hid (by rw [hpo.out, hk])
    have hW := hid (u32_wf (keyAt_lt hk))
    have hklt := hid (keyAt_lt hk)
    rw [hv]
    clear hv hk hkv hpo
    obtain ⟨D, hD, hL⟩ := HMAP.out
    have hD2 := hid (map_keep (w' := W.drewN nq) hD (HWs.out.block _ hD.lt))
    have HL := hid hL
    clear hD hL
    gi_wp2_with (gi_at_lookup; go_loud (refine wpListIn_lookup_own_int _ rfl _ _ 265 rfl 67 3 .i64 lawU32 Tryz.underlying265 Tryz.underlying3 (zeroInt _) mb p D rfl hD2.out _ _ rfl (keyOf_int_mk Tryz.underlying67 hW.out) ?_; intro c hat hwc; have hc : c = (lastP b k p : Int) := (by have := HL.out k hklt.out; rw [hat] at this; simpa using this); subst hc; clear hat hwc))
    gi_loopw [6] (fun kk wr => ∃ (pre : List (Fin p)) (j : Nat), j ≤ p ∧ kk = .int .i64 (lastP b k j : Int) ∧ Hid (placesOf b p = pre ++ (plcF b k p j).takeWhile (near p)) ∧ Hid (J pre wr) ∧ Hid (KpC (fun q => q = g ∨ q = mb ∨ (Value.slice ap p cp).ownBlock = some q ∨ q = bc ∨ q = ba) w wr)) (fun kk _ => (intOf kk).toNat)
    case atStart => exact ⟨[], p, Nat.le_refl _, rfl, hid (by rw [hp0.out]; rfl), h1, hid (KpC.trans hK0 fun q hq => rfl)⟩
    case round =>
      obtain ⟨pre, j, hj, rfl, hx, hJs, hKs⟩ := hrel
      have hle2 := lastP_le b k j
      cases hlj : lastP b k j with
      | zero =>
        have hend : Hid (placesOf b p = pre) := hid (by rw [hx.out, plcF_none b k p j hlj]; simp)
        clear hlj
        gi_wp2
        go_end0
        exact ⟨⟨_, rfl⟩, .inl ⟨pre, hend.out.symm, hJs.out⟩⟩
      | succ i =>
        obtain ⟨hki, hij⟩ := lastP_next b k j i hlj
        have hip : i < p := by omega
        have hstep : (plcF b k p j).takeWhile (near p) = if near p ⟨i, hip⟩ then ⟨i, hip⟩ :: (plcF b k p i).takeWhile (near p) else [] := by
          rw [plcF_some b k p j i hip hlj, List.takeWhile_cons]
        have hpn := prevN_next hki
        have HS := hid hstep; have HPN := hid hpn
        clear hlj hki hstep hpn
        have B1 := (hKs.out bc (.inr (.inr (.inr (.inl rfl))))).trans HC.out
        have B2 := (hKs.out ba (.inr (.inr (.inr (.inr rfl))))).trans HAA.out
        have r1 : wr.cell? ⟨bc, 0, none⟩ = some (.pointer (some ⟨g, 0, none⟩)) := Blk.cell B1 0
        have r2 : wr.cell? ⟨ba, 0, none⟩ = some (.int .i64 (p : Int)) := Blk.cell B2 0
        clear B1 B2
        have t0 : (0 : Int) < ((i + 1 : Nat) : Int) := by omega
        by_cases hnr : p - i ≤ 65536
        · have hn2 : near p ⟨i, hip⟩ = true := by simp [near, hnr]
          have hx2 : Hid (placesOf b p = pre ++ ⟨i, hip⟩ :: (plcF b k p i).takeWhile (near p)) := hid (by rw [hx.out, HS.out, hn2, if_pos rfl])
          obtain ⟨fn, tmps, assign, body, hy, hR⟩ := HY.out pre ⟨i, hip⟩ wr hJs.out (by rw [hx2.out]; simp)
          have d1 : decide ((65536 : Int) < (p : Int) - (i : Int)) = false := by simp; omega
          have d2 : decide ((i : Int) < (p : Int)) = true := by simp; omega
          have d2' : decide (i < p) = true := by simp; omega
          dsimp only at hy
          have HR := hid hR; clear hR hn2
          gi_wp2
          refine ⟨wide_d, ?_⟩
          refine HR.out.mono ?_
          rintro e W3 (⟨rfl, hJ3, hk3⟩ | ⟨rfl, hJx3⟩)
          · have hK3 := KpC.trans hKs.out hk3
            have HJ3 := hid hJ3; have HK3 := hid hK3
            clear hJ3 hk3 hK3
            have B1 := (HK3.out bc (.inr (.inr (.inr (.inl rfl))))).trans HC.out
            have B3 := (HK3.out g (.inl rfl)).trans HG0.out
            obtain ⟨gp, cp2, hvp, hcp, hgp⟩ := own_row_at HPREV.out (prevs_at (b := b) hip) (prevs_length b p).symm
            simp only [Value.slice.injEq, true_and] at hvp
            obtain ⟨rfl, rfl⟩ := hvp
            have q1 : W3.cell? ⟨bc, 0, none⟩ = some (.pointer (some ⟨g, 0, none⟩)) := Blk.cell B1 0
            have q3 : W3.cell? ⟨g, 2, none⟩ = some (.slice (some ⟨gp, 0, none⟩) p cp) := Blk.cell B3 2
            have q4 : W3.cell? ⟨gp, i, none⟩ = some (.int .i64 (prevN b i : Int)) := (World.cell?_of_block (a := ⟨gp, i, none⟩) (HK3.out gp (.inr (.inr (.inl rfl))))).trans hcp
            rw [HPN.out] at q4
            have i1 : (i : Int) < (p : Int) := by omega
            have i2 : (0 : Int) ≤ (i : Int) := by omega
            clear hcp B1 B3
            gi_wp2
            go_roundw
            case rel => exact ⟨pre ++ [⟨i, hip⟩], i, by omega, rfl, hid (by rw [hx2.out]; simp), HJ3, HK3⟩
            case measure =>
              have := lastP_le b k i
              simp [intOf]; omega
          · have HJX3 := hid hJx3; clear hJx3
            gi_wp2
            refine bodyPost_ret (results_none rfl _ _ _) rfl ?_
            exact ⟨⟨_, rfl⟩, .inr ⟨pre ++ [⟨i, hip⟩], ⟨(plcF b k p i).takeWhile (near p), by rw [hx2.out]; simp⟩, HJX3.out⟩⟩
        · have hn2 : near p ⟨i, hip⟩ = false := by simp [near]; omega
          have hend : Hid (placesOf b p = pre) := hid (by rw [hx.out, HS.out, hn2]; simp)
          have d1 : decide ((65536 : Int) < (p : Int) - (i : Int)) = true := by simp; omega
          clear hn2
          gi_wp2
          refine bodyPost_ret (results_none rfl _ _ _) rfl ?_
          exact ⟨⟨_, rfl⟩, .inl ⟨pre, hend.out.symm, hJs.out⟩⟩
end Go.Proofs.YtlbffbkbkajciaaGreat
namespace Go.Proofs.YtlbffbkbkajciaaGreat
open Go.RowKit Go.Bs
set_option linter.unusedVariables false
set_option linter.unusedSimpArgs false

def stepB (b : List UInt8) (p : Nat) (s : Nat × Nat) (q : Fin p) : Nat × Nat := if s.2 < mlen b p (p - q.val) then (p - q.val, mlen b p (p - q.val)) else s
def bestL (b : List UInt8) (p : Nat) (l : List (Fin p)) : Nat × Nat := l.foldl (stepB b p) (0, 0)
theorem bestL_snoc (b : List UInt8) (p : Nat) (l : List (Fin p)) (q : Fin p) : bestL b p (l ++ [q]) = stepB b p (bestL b p l) q := by simp [bestL]
def takenR (s : Nat × Nat) : Nat × Nat := (if s.2 < 4 then 0 else s.1, if s.2 < 4 then 0 else s.2)

theorem plcF_mem (b : List UInt8) (k m : Nat) : ∀ j, j ≤ m → ∀ q : Fin m, q ∈ plcF b k m j ↔ q.val < j ∧ keyAt b q.val = some k
  | 0, _, q => by simp [plcF]
  | j + 1, hj, q => by
    have ih := plcF_mem b k m j (by omega) q
    simp only [plcF]
    rw [dif_pos (by omega)]
    by_cases hk : keyAt b j = some k
    · rw [if_pos hk, List.mem_cons, ih]
      constructor
      · rintro (rfl | ⟨h1, h2⟩)
        · exact ⟨by simp, hk⟩
        · exact ⟨by omega, h2⟩
      · rintro ⟨h1, h2⟩
        by_cases e : q.val = j
        · exact .inl (Fin.ext e)
        · exact .inr ⟨by omega, h2⟩
    · rw [if_neg hk, ih]
      constructor
      · rintro ⟨h1, h2⟩; exact ⟨by omega, h2⟩
      · rintro ⟨h1, h2⟩
        refine ⟨?_, h2⟩
        by_cases e : q.val = j
        · rw [e] at h2; exact absurd h2 hk
        · omega
theorem plcF_desc (b : List UInt8) (k m : Nat) : ∀ j, j ≤ m → (plcF b k m j).Pairwise (fun x y => y.val < x.val)
  | 0, _ => by simp [plcF]
  | j + 1, hj => by
    have ih := plcF_desc b k m j (by omega)
    simp only [plcF]
    rw [dif_pos (by omega)]
    split
    · refine List.pairwise_cons.2 ⟨fun q hq => ?_, ih⟩
      exact ((plcF_mem b k m j (by omega) q).1 hq).1
    · exact ih
theorem desc_take {p : Nat} : ∀ {l : List (Fin p)}, l.Pairwise (fun x y => y.val < x.val) → ∀ q, q ∈ l → near p q = true → q ∈ l.takeWhile (near p)
  | [], _, q, h, _ => by cases h
  | x :: l, hd, q, h, hn => by
    obtain ⟨h1, h2⟩ := List.pairwise_cons.1 hd
    have hx : near p x = true := by
      rcases List.mem_cons.1 h with rfl | h
      · exact hn
      · have := h1 q h
        simp only [near, decide_eq_true_eq] at hn ⊢
        omega
    rw [List.takeWhile_cons, if_pos hx]
    rcases List.mem_cons.1 h with rfl | h
    · exact List.mem_cons_self ..
    · exact List.mem_cons_of_mem _ (desc_take h2 q h hn)
theorem takeWhile_near {α : Type} {f : α → Bool} : ∀ {l : List α} {q : α}, q ∈ l.takeWhile f → f q = true
  | [], q, h => by simp at h
  | x :: l, q, h => by
    rw [List.takeWhile_cons] at h
    split at h
    · rename_i hx
      rcases List.mem_cons.1 h with e | h
      · rw [e]; exact hx
      · exact takeWhile_near h
    · cases h
theorem placesOf_desc (b : List UInt8) (p : Nat) : (placesOf b p).Pairwise (fun x y => y.val < x.val) := by
  unfold placesOf
  split
  · exact List.Pairwise.nil
  · exact (plcF_desc b _ p p (Nat.le_refl _)).sublist (List.takeWhile_sublist _)
theorem placesOf_mem {b : List UInt8} {p : Nat} (q : Fin p) : q ∈ placesOf b p ↔ (∃ k, keyAt b p = some k ∧ keyAt b q.val = some k) ∧ p - q.val ≤ 65536 := by
  unfold placesOf
  cases hk : keyAt b p with
  | none => simp
  | some k =>
    simp only [Option.some.injEq, exists_eq_left']
    constructor
    · intro h
      have h1 := (plcF_mem b k p p (Nat.le_refl _) q).1 ((List.takeWhile_sublist _).subset h)
      have h2 : near p q = true := takeWhile_near h
      exact ⟨h1.2, by simpa [near] using h2⟩
    · rintro ⟨h1, h2⟩
      exact desc_take (plcF_desc b k p p (Nat.le_refl _)) q ((plcF_mem b k p p (Nat.le_refl _) q).2 ⟨q.isLt, h1⟩) (by simp [near, h2])

/-- The same key is four bytes alike. -/
theorem mlen_of_key {b : List UInt8} {p k : Nat} {q : Fin p} (h1 : keyAt b p = some k) (h2 : keyAt b q.val = some k) : 4 ≤ mlen b p (p - q.val) := by
  have hq := q.isLt
  have hp : p + 4 ≤ b.length := by
    rcases Nat.lt_or_ge b.length (p + 4) with h | h
    · rw [keyV_none h] at h1; cases h1
    · exact h
  rw [keyV_some hp] at h1
  rw [keyV_some (show q.val + 4 ≤ b.length by omega)] at h2
  simp only [Option.some.injEq] at h1 h2
  have a0 := b[p].toNat_lt; have a1 := b[p + 1].toNat_lt; have a2 := b[p + 2].toNat_lt; have a3 := b[p + 3].toNat_lt
  have c0 := b[q.val].toNat_lt; have c1 := b[q.val + 1].toNat_lt; have c2 := b[q.val + 2].toNat_lt; have c3 := b[q.val + 3].toNat_lt
  have e0 : b[p] = b[q.val] := UInt8.toNat_inj.1 (by omega)
  have e1 : b[p + 1] = b[q.val + 1] := UInt8.toNat_inj.1 (by omega)
  have e2 : b[p + 2] = b[q.val + 2] := UInt8.toNat_inj.1 (by omega)
  have e3 : b[p + 3] = b[q.val + 3] := UInt8.toNat_inj.1 (by omega)
  refine mlen_ge (by omega) (by omega) (by omega) fun j hj => ⟨by omega, ?_⟩
  rw [show p + j - (p - q.val) = q.val + j by omega]
  rw [List.getElem?_eq_getElem (show p + j < b.length by omega), List.getElem?_eq_getElem (show q.val + j < b.length by omega)]
  have hj4 : j = 0 ∨ j = 1 ∨ j = 2 ∨ j = 3 := by omega
  rcases hj4 with rfl | rfl | rfl | rfl
  · exact congrArg some e0
  · exact congrArg some e1
  · exact congrArg some e2
  · exact congrArg some e3
theorem key_of_mlen {b : List UInt8} {p o : Nat} (h : 4 ≤ mlen b p o) : ∃ k, keyAt b p = some k ∧ keyAt b (p - o) = some k := by
  obtain ⟨h1, h2, h3, _⟩ := mlen_same (show 3 < mlen b p o by omega)
  have hs := fun j (hj : j < 4) => (mlen_same (show j < mlen b p o by omega)).2.2.2
  have e : ∀ j, j < 4 → b[p + j]? = b[p - o + j]? := fun j hj => by
    have := hs j hj
    rwa [show p + j - o = p - o + j by omega] at this
  refine ⟨_, keyV_some (by omega), ?_⟩
  have := keyV_some (b := b) (p := p) (by omega)
  rw [← this]
  unfold keyAt
  have g0 := e 0 (by omega)
  simp only [Nat.add_zero] at g0
  rw [g0, e 1 (by omega), e 2 (by omega), e 3 (by omega)]

/-- What has been found among the first places. -/
structure Found (b : List UInt8) (p : Nat) (pre : List (Fin p)) (s : Nat × Nat) : Prop where
  all : ∀ q ∈ pre, mlen b p (p - q.val) ≤ s.2
  is : pre = [] ∧ s = (0, 0) ∨ ∃ q0 ∈ pre, s.1 = p - q0.val ∧ s.2 = mlen b p (p - q0.val) ∧ ∀ q ∈ pre, q0.val < q.val → mlen b p (p - q.val) < s.2
theorem found_all {b : List UInt8} {p : Nat} : ∀ (r pre : List (Fin p)) (s : Nat × Nat), (pre ++ r).Pairwise (fun x y => y.val < x.val) → (∀ q ∈ pre ++ r, 4 ≤ mlen b p (p - q.val)) → Found b p pre s → Found b p (pre ++ r) (r.foldl (stepB b p) s)
  | [], pre, s, _, _, h => by simpa using h
  | q :: r, pre, s, hd, hm, h => by
    have e : pre ++ q :: r = (pre ++ [q]) ++ r := by simp
    rw [e] at hd hm ⊢
    rw [List.foldl_cons]
    refine found_all r (pre ++ [q]) _ hd hm ?_
    have hlt : ∀ x ∈ pre, q.val < x.val := fun x hx => by
      have := (List.pairwise_append.1 hd).1
      exact (List.pairwise_append.1 this).2.2 x hx q (by simp)
    have h4 := hm q (by simp)
    unfold stepB
    by_cases hs : s.2 < mlen b p (p - q.val)
    · rw [if_pos hs]
      refine ⟨fun x hx => ?_, .inr ⟨q, by simp, rfl, rfl, fun x hx hlt' => ?_⟩⟩
      · rcases List.mem_append.1 hx with hx | hx
        · have := h.all x hx
          show _ ≤ mlen b p (p - q.val)
          omega
        · simp at hx; subst hx; exact Nat.le_refl _
      · rcases List.mem_append.1 hx with hx | hx
        · have := h.all x hx
          show _ < mlen b p (p - q.val)
          omega
        · simp at hx; subst hx; omega
    · rw [if_neg hs]
      rcases h.is with ⟨rfl, rfl⟩ | ⟨q0, hq0, h1, h2, h3⟩
      · simp only at hs; omega
      · refine ⟨fun x hx => ?_, .inr ⟨q0, by simp [hq0], h1, h2, fun x hx hlt' => ?_⟩⟩
        · rcases List.mem_append.1 hx with hx | hx
          · exact h.all x hx
          · simp at hx; subst hx; omega
        · rcases List.mem_append.1 hx with hx | hx
          · exact h3 x hx hlt'
          · simp at hx; subst hx; have := hlt q0 hq0; omega
theorem found_pre {b : List UInt8} {p : Nat} {pre : List (Fin p)} (h : pre <+: placesOf b p) : Found b p pre (bestL b p pre) := by
  have := found_all (b := b) pre [] (0, 0) (by
    simp only [List.nil_append]
    exact (placesOf_desc b p).sublist h.sublist) (fun q hq => by
      simp only [List.nil_append] at hq
      obtain ⟨⟨k, h1, h2⟩, _⟩ := (placesOf_mem q).1 (h.subset hq)
      exact mlen_of_key h1 h2) ⟨fun q hq => (by cases hq), .inl ⟨rfl, rfl⟩⟩
  simpa [bestL] using this
/-- A place that has no such key is no match. -/
theorem few {b : List UInt8} {p j : Nat} (h1 : 1 ≤ j) (h2 : j ≤ reach p) (h : ∀ q : Fin p, q ∈ placesOf b p → q.val ≠ p - j) : mlen b p j < 4 := by
  rcases Nat.lt_or_ge (mlen b p j) 4 with h' | h'
  · exact h'
  · exfalso
    unfold reach at h2
    obtain ⟨k, g1, g2⟩ := key_of_mlen h'
    exact h ⟨p - j, by omega⟩ ((placesOf_mem _).2 ⟨⟨k, g1, g2⟩, by simp only; omega⟩) rfl
theorem best_done (b : List UInt8) (p : Nat) : takenR (bestL b p (placesOf b p)) = bestR b p := by
  have hf := found_pre (List.prefix_refl (placesOf b p))
  rcases hf.is with ⟨h1, h2⟩ | ⟨q0, hq0, h1, h2, h3⟩
  · have hn : bestR b p = (0, 0) := bestR_none fun j j1 j2 => few j1 j2 fun q hq => (by rw [h1] at hq; cases hq)
    rw [hn, h2]; rfl
  · obtain ⟨⟨k, g1, g2⟩, g3⟩ := (placesOf_mem q0).1 hq0
    have h4 := mlen_of_key g1 g2
    have hq := q0.isLt
    have : bestR b p = (p - q0.val, mlen b p (p - q0.val)) := by
      refine bestR_is (by omega) (by unfold reach; omega) h4 rfl (fun j j1 j2 => ?_) (fun j j1 j2 => ?_)
      · by_cases hx : ∃ q : Fin p, q ∈ placesOf b p ∧ q.val = p - j
        · obtain ⟨q, hq1, hq2⟩ := hx
          have := hf.all q hq1
          rw [h2, hq2, show p - (p - j) = j by unfold reach at j2; omega] at this
          exact this
        · have := few (b := b) j1 j2 fun q hq1 hq2 => hx ⟨q, hq1, hq2⟩
          omega
      · by_cases hx : ∃ q : Fin p, q ∈ placesOf b p ∧ q.val = p - j
        · obtain ⟨q, hq1, hq2⟩ := hx
          have := h3 q hq1 (by omega)
          rw [h2, hq2, show p - (p - j) = j by omega] at this
          exact this
        · have := few (b := b) j1 (by unfold reach; omega) fun q hq1 hq2 => hx ⟨q, hq1, hq2⟩
          omega
    rw [this]
    unfold takenR
    rw [h2, h1, if_neg (by omega), if_neg (by omega)]
theorem best_stop {b : List UInt8} {p : Nat} {pre : List (Fin p)} (h : pre <+: placesOf b p) (hp : p < b.length) (he : p + (bestL b p pre).2 = b.length) : takenR (bestL b p pre) = bestR b p := by
  have hf := found_pre h
  rcases hf.is with ⟨h1, h2⟩ | ⟨q0, hq0, h1, h2, h3⟩
  · rw [h2] at he; simp only at he; omega
  · obtain ⟨⟨k, g1, g2⟩, g3⟩ := (placesOf_mem q0).1 (h.subset hq0)
    have h4 := mlen_of_key g1 g2
    have hq := q0.isLt
    have : bestR b p = (p - q0.val, mlen b p (p - q0.val)) := by
      refine bestR_is (by omega) (by unfold reach; omega) h4 rfl (fun j j1 j2 => ?_) (fun j j1 j2 => ?_)
      · have := mlen_le b p j
        rw [← h2]; omega
      · by_cases hx : ∃ q : Fin p, q ∈ placesOf b p ∧ q.val = p - j
        · obtain ⟨q, hq1, hq2⟩ := hx
          have hin : q ∈ pre := by
            obtain ⟨r, hr⟩ := h
            rw [← hr] at hq1
            rcases List.mem_append.1 hq1 with h' | h'
            · exact h'
            · have hd := placesOf_desc b p
              rw [← hr] at hd
              have := (List.pairwise_append.1 hd).2.2 q0 hq0 q h'
              omega
          have := h3 q hin (by omega)
          rw [h2, hq2, show p - (p - j) = j by omega] at this
          exact this
        · have := few (b := b) j1 (by unfold reach; omega) fun q hq1 hq2 => hx ⟨q, hq1, hq2⟩
          omega
    rw [this]
    unfold takenR
    rw [h2, h1, if_neg (by omega), if_neg (by omega)]
theorem bestL_bound (b : List UInt8) (p : Nat) (pre : List (Fin p)) : (bestL b p pre).1 ≤ p ∧ (bestL b p pre).2 ≤ b.length - p := by
  unfold bestL
  have : ∀ (l : List (Fin p)) (s : Nat × Nat), s.1 ≤ p ∧ s.2 ≤ b.length - p → (l.foldl (stepB b p) s).1 ≤ p ∧ (l.foldl (stepB b p) s).2 ≤ b.length - p := by
    intro l
    induction l with
    | nil => intro s h; exact h
    | cons q l ih =>
      intro s h
      rw [List.foldl_cons]
      refine ih _ ?_
      unfold stepB
      split
      · exact ⟨by simp only; omega, mlen_le b p _⟩
      · exact h
  exact this pre (0, 0) ⟨Nat.zero_le _, Nat.zero_le _⟩
end Go.Proofs.YtlbffbkbkajciaaGreat
