/- What a segment of the version 1 becomes is well-formed, has as many entries, each at its position: plain. -/
import Derived.Test.YtlbchenleimopaaSuB
namespace Go.Proofs.Ytlbchenleimopaa
open Go.RowKit Go.Bs
set_option linter.unusedVariables false
set_option linter.unusedSimpArgs false

theorem nEntries_append (a b : List Batch) : nEntries (a ++ b) = nEntries a + nEntries b := by simp [nEntries]
theorem upL_entries (e base : Int) (l : List Old) : nEntries (upL e base l) = l.length := by
  induction hn : l.length generalizing l with
  | zero => rw [List.eq_nil_of_length_eq_zero hn]; rfl
  | succ n ih =>
    obtain ⟨T, x, rfl⟩ : ∃ T x, l = T ++ [x] := ⟨l.take n, l[n], by rw [← List.take_succ_eq_append_getElem (by omega), List.take_of_length_le (by omega)]⟩
    have hT : T.length = n := by simpa using hn
    obtain ⟨B0, es, h1, _, h2, h3, _⟩ := upL_step e base T x
    have := ih T hT
    rw [h1, nEntries_append]
    by_cases h : T.length % 16 = 0
    · obtain ⟨h4, h5⟩ := h2 h
      rw [h4] at this
      rw [this, h5, hT]; rfl
    · rw [h3 h, nEntries_append] at this
      have e1 : ∀ (b : Int) (es : List Entry), nEntries [⟨e, b, es⟩] = es.length := fun b es => by simp [nEntries]
      rw [e1] at this ⊢
      simp only [List.length_append, List.length_cons, List.length_nil]
      omega

theorem entryR_mk {pos : Int} {x : Old} (h : oldR pos x = true) (hd : x.data.length ≤ 1048576) : entryR pos (upE x) = true := by
  obtain ⟨st, bk, hs, D⟩ := x
  cases hs
  · simpa [entryR, upE, linksR, risesB, linkR, backsO, fallsB] using hd
  · have h' : bk < pos := by simpa [oldR] using h
    simp only [entryR, upE, linksR, backsO]
    simp [risesB, linkR, fallsB, h', hd]
theorem batchR_mk {e b : Int} {es : List Entry} (h1 : 1 ≤ e ∧ e < 4611686018427387904) (h2 : 1 ≤ es.length ∧ es.length ≤ 16 ∧ b < 4611686018427387904 ∧ b + es.length ≤ 4611686018427387904) (h3 : total es ≤ 1048576) (h4 : entriesR b es = true) : batchR ⟨e, b, es⟩ = true := by
  simp [batchR, epR, fitsR, h1, h2, h3, h4]
theorem mayR_none {e : Int} {b : Batch} (h : b.epoch ≤ e) : mayR e none b = true := by simp [mayR, h]
theorem mayR_some {e : Int} {p b : Batch} (h : b.epoch ≤ e) (h1 : p.epoch ≤ b.epoch) (h2 : p.base + p.entries.length ≤ b.base) : mayR e (some p) b = true := by simp [mayR, h, h1, h2]
theorem findB_mk {e b pos : Int} {es : List Entry} : findB ⟨e, b, es⟩ pos = if b ≤ pos then es[(pos - b).toNat]? else none := rfl

theorem entriesR_up (base : Int) : ∀ (l : List Old) (i : Nat), allI (fun i => oldR (base + i)) i l = true → (∀ x ∈ l, x.data.length ≤ 1048576) → entriesR (base + i) (l.map upE) = true
  | [], _, _, _ => rfl
  | x :: l, i, h, hd => by
    simp only [allI, Bool.and_eq_true] at h
    have ih := entriesR_up base l (i + 1) h.2 fun y hy => hd y (List.mem_cons_of_mem _ hy)
    have e : base + ((i + 1 : Nat) : Int) = base + i + 1 := by omega
    rw [e] at ih
    simp only [List.map_cons, entriesR, Bool.and_eq_true]
    refine ⟨?_, ih⟩
    exact entryR_mk h.1 (hd x (List.mem_cons_self ..))

theorem allI_drop {α : Type} (p : Nat → α → Bool) : ∀ (l : List α) (i k : Nat), allI p i l = true → allI p (i + k) (l.drop k) = true
  | [], i, k, h => by simp [allI]
  | x :: l, i, 0, h => h
  | x :: l, i, k + 1, h => by
    simp only [allI, Bool.and_eq_true] at h
    have := allI_drop p l (i + 1) k h.2
    rw [show i + (k + 1) = i + 1 + k by omega]
    exact this
theorem allI_take {α : Type} (p : Nat → α → Bool) : ∀ (l : List α) (i k : Nat), allI p i l = true → allI p i (l.take k) = true
  | [], i, k, h => by simp [allI]
  | x :: l, i, 0, h => rfl
  | x :: l, i, k + 1, h => by
    simp only [allI, Bool.and_eq_true, List.take_succ_cons] at h ⊢
    exact ⟨h.1, allI_take p l (i + 1) k h.2⟩

theorem totalO_part (l : List Old) (a b : Nat) : totalO ((l.drop a).take b) ≤ totalO l := by
  have h1 := totalO_take_le (l.drop a) b
  have h2 : totalO l = totalO (l.take a) + totalO (l.drop a) := by
    unfold totalO
    rw [← List.sum_append, ← List.map_append, List.take_append_drop]
  omega
theorem total_up (l : List Old) : total (l.map upE) = totalO l := by
  unfold total totalO
  rw [List.map_map]; rfl

theorem upB_right {u : Seg1} (h : seg1R u = true) (j : Nat) (hj : 16 * j < u.entries.length) : batchR (upB u.epoch u.base u.entries j) = true := by
  have h' := h
  obtain ⟨g1, g2, g3, g4, g5⟩ := seg1R_facts h
  simp only [seg1R, Bool.and_eq_true] at h'
  have hall := h'.2.2.2.2
  have hp := totalO_part u.entries (16 * j) 16
  have hp2 := hp
  rw [← total_up] at hp
  have hlen : (((u.entries.drop (16 * j)).take 16).map upE).length = min 16 (u.entries.length - 16 * j) := by simp
  have h1 := allI_take _ _ _ 16 (allI_drop _ _ 0 (16 * j) hall)
  rw [Nat.zero_add] at h1
  have h2 := entriesR_up u.base _ (16 * j) h1 fun x hx => by have := totalO_mem hx; omega
  exact batchR_mk g4 (by rw [hlen]; omega) (by omega) h2

theorem chainR_up {u : Seg1} (h : seg1R u = true) (m : Nat) : ∀ (k s : Nat) (p : Option Batch), s + k = m → (∀ j, j < m → 16 * j < u.entries.length) → (p = none ∨ ∃ t, s = t + 1 ∧ p = some (upB u.epoch u.base u.entries t)) →
    chainR u.epoch p ((List.range' s k).map (upB u.epoch u.base u.entries)) = true
  | 0, s, p, _, _, _ => rfl
  | k + 1, s, p, hm, hj, hp => by
    have hs := hj s (by omega)
    simp only [List.range'_succ, List.map_cons, chainR, Bool.and_eq_true]
    refine ⟨upB_right h s hs, ?_, chainR_up h m k (s + 1) _ (by omega) hj (.inr ⟨s, rfl, rfl⟩)⟩
    rcases hp with rfl | ⟨t, rfl, rfl⟩
    · exact mayR_none (Int.le_refl _)
    · refine mayR_some (Int.le_refl _) (Int.le_refl _) ?_
      show u.base + ((16 * t : Nat) : Int) + ((((u.entries.drop (16 * t)).take 16).map upE).length : Nat) ≤ u.base + ((16 * (t + 1) : Nat) : Int)
      have : (((u.entries.drop (16 * t)).take 16).map upE).length ≤ 16 := by simp; omega
      omega

theorem upL_right {u : Seg1} (h : seg1R u = true) (h256 : u.entries.length ≤ 256) : segR ⟨u.epoch, upL u.epoch u.base u.entries⟩ = true := by
  obtain ⟨g1, g2, g3, g4, g5⟩ := seg1R_facts h
  have hlen := upL_length u.epoch u.base u.entries
  simp only [segR, epR, Bool.and_eq_true, decide_eq_true_eq]
  refine ⟨g4, by rw [hlen]; omega, ?_⟩
  unfold upL
  rw [List.range_eq_range']
  exact chainR_up h ((u.entries.length + 15) / 16) _ 0 none (by omega) (fun j hj => by omega) (.inl rfl)

/-- Each entry stands at its position. -/
theorem findS_up (e base : Int) (l : List Old) (i : Nat) (hi : i < l.length) : ∀ (k s : Nat), s + k = (l.length + 15) / 16 → 16 * s ≤ i →
    findS ((List.range' s k).map (upB e base l)) (base + i) = some (upE l[i])
  | 0, s, h, h2 => by omega
  | k + 1, s, h, h2 => by
    unfold findS
    rw [List.range'_succ, List.map_cons, List.findSome?_cons]
    by_cases hlt : i < 16 * s + 16
    · have hf : findB (upB e base l s) (base + i) = some (upE l[i]) := by
        unfold upB
        rw [findB_mk, if_pos (by omega), show (base + (i : Int) - (base + ((16 * s : Nat) : Int))).toNat = i - 16 * s by omega]
        rw [List.getElem?_map, List.getElem?_take, if_pos (by omega), List.getElem?_drop, show 16 * s + (i - 16 * s) = i by omega, List.getElem?_eq_getElem hi]
        rfl
      rw [hf]
    · have hf : findB (upB e base l s) (base + i) = none := by
        unfold upB
        rw [findB_mk, if_pos (by omega), show (base + (i : Int) - (base + ((16 * s : Nat) : Int))).toNat = i - 16 * s by omega]
        rw [List.getElem?_map, List.getElem?_take, if_neg (by omega)]; rfl
      rw [hf]
      exact findS_up e base l i hi k (s + 1) (by omega) (by omega)
theorem findS_upL (e base : Int) (l : List Old) (i : Nat) (hi : i < l.length) : findS (upL e base l) (base + i) = some (upE l[i]) := by
  unfold upL
  rw [List.range_eq_range']
  exact findS_up e base l i hi _ 0 (by omega) (by omega)

/-- Plain bounds of what becomes of a segment of the version 1. -/
theorem upB_mild (e base : Int) (l : List Old) (j : Nat) (hd : ∀ x ∈ l, x.data.length ≤ 1000000000000) : ∀ z ∈ (upB e base l j).entries, Mild z := by
  intro z hz
  simp only [upB] at hz
  obtain ⟨x, hx, rfl⟩ := List.mem_map.1 hz
  have hx' : x ∈ l := List.mem_of_mem_drop (List.mem_of_mem_take hx)
  refine ⟨by simp [upE], hd x hx', fun y hy => ?_⟩
  simp only [upE, List.mem_singleton] at hy
  subst hy
  simp only [backsO]
  split <;> simp
theorem upB_fair (e base : Int) (l : List Old) (j : Nat) (ht : totalO l ≤ 1000000000000) : Fair (upB e base l j).entries := by
  refine ⟨?_, ?_, fun z hz x hx => (upB_mild e base l j (fun x hx => by have := totalO_mem hx; omega) z hz).2.2 x hx⟩
  · have := totalO_part l (16 * j) 16
    simp only [upB]
    rw [total_up]; omega
  · simp [upB]; omega
theorem upL_mem {e base : Int} {l : List Old} {b : Batch} (h : b ∈ upL e base l) : ∃ j, b = upB e base l j := by
  obtain ⟨j, _, rfl⟩ := List.mem_map.1 h
  exact ⟨j, rfl⟩
end Go.Proofs.Ytlbchenleimopaa
