/- The best match out of the places with the same key: plain. -/
import Derived.Test.YtkipiefcnjfdjaaGreatPrG
namespace Go.Proofs.YtkipiefcnjfdjaaGreat
open Go.RowKit Go.Bs
set_option linter.unusedVariables false
set_option linter.unusedSimpArgs false

def stepB (b : List UInt8) (p : Nat) (s : Nat × Nat) (q : Fin p) : Nat × Nat := if s.2 < mlen b p (p - q.val) then (p - q.val, mlen b p (p - q.val)) else s
def bestL (b : List UInt8) (p : Nat) (l : List (Fin p)) : Nat × Nat := l.foldl (stepB b p) (0, 0)
theorem bestL_snoc (b : List UInt8) (p : Nat) (l : List (Fin p)) (q : Fin p) : bestL b p (l ++ [q]) = stepB b p (bestL b p l) q := by simp [bestL]
def takenR (s : Nat × Nat) : Nat × Nat := (if s.2 < 4 then 0 else s.1, if s.2 < 4 then 0 else s.2)

theorem plcF_mem (b : List UInt8) (k m : Nat) : ∀ j, j ≤ m → ∀ q : Fin m, q ∈ plcF b k m j ↔ q.val < j ∧ keyAt b q.val = some k
  | 0, _, q => by simp [plcF]
  | j + 1, hj, q => by
    have ih := plcF_mem b k m j (by omega) q
    simp only [plcF]
    rw [dif_pos (by omega)]
    by_cases hk : keyAt b j = some k
    · rw [if_pos hk, List.mem_cons, ih]
      constructor
      · rintro (rfl | ⟨h1, h2⟩)
        · exact ⟨by simp, hk⟩
        · exact ⟨by omega, h2⟩
      · rintro ⟨h1, h2⟩
        by_cases e : q.val = j
        · exact .inl (Fin.ext e)
        · exact .inr ⟨by omega, h2⟩
    · rw [if_neg hk, ih]
      constructor
      · rintro ⟨h1, h2⟩; exact ⟨by omega, h2⟩
      · rintro ⟨h1, h2⟩
        refine ⟨?_, h2⟩
        by_cases e : q.val = j
        · rw [e] at h2; exact absurd h2 hk
        · omega
theorem plcF_desc (b : List UInt8) (k m : Nat) : ∀ j, j ≤ m → (plcF b k m j).Pairwise (fun x y => y.val < x.val)
  | 0, _ => by simp [plcF]
  | j + 1, hj => by
    have ih := plcF_desc b k m j (by omega)
    simp only [plcF]
    rw [dif_pos (by omega)]
    split
    · refine List.pairwise_cons.2 ⟨fun q hq => ?_, ih⟩
      exact ((plcF_mem b k m j (by omega) q).1 hq).1
    · exact ih
theorem desc_take {p : Nat} : ∀ {l : List (Fin p)}, l.Pairwise (fun x y => y.val < x.val) → ∀ q, q ∈ l → near p q = true → q ∈ l.takeWhile (near p)
  | [], _, q, h, _ => by cases h
  | x :: l, hd, q, h, hn => by
    obtain ⟨h1, h2⟩ := List.pairwise_cons.1 hd
    have hx : near p x = true := by
      rcases List.mem_cons.1 h with rfl | h
      · exact hn
      · have := h1 q h
        simp only [near, decide_eq_true_eq] at hn ⊢
        omega
    rw [List.takeWhile_cons, if_pos hx]
    rcases List.mem_cons.1 h with rfl | h
    · exact List.mem_cons_self ..
    · exact List.mem_cons_of_mem _ (desc_take h2 q h hn)
theorem takeWhile_near {α : Type} {f : α → Bool} : ∀ {l : List α} {q : α}, q ∈ l.takeWhile f → f q = true
  | [], q, h => by simp at h
  | x :: l, q, h => by
    rw [List.takeWhile_cons] at h
    split at h
    · rename_i hx
      rcases List.mem_cons.1 h with e | h
      · rw [e]; exact hx
      · exact takeWhile_near h
    · cases h
theorem placesOf_desc (b : List UInt8) (p : Nat) : (placesOf b p).Pairwise (fun x y => y.val < x.val) := by
  unfold placesOf
  split
  · exact List.Pairwise.nil
  · exact (plcF_desc b _ p p (Nat.le_refl _)).sublist (List.takeWhile_sublist _)
theorem placesOf_mem {b : List UInt8} {p : Nat} (q : Fin p) : q ∈ placesOf b p ↔ (∃ k, keyAt b p = some k ∧ keyAt b q.val = some k) ∧ p - q.val ≤ 65536 := by
  unfold placesOf
  cases hk : keyAt b p with
  | none => simp
  | some k =>
    simp only [Option.some.injEq, exists_eq_left']
    constructor
    · intro h
      have h1 := (plcF_mem b k p p (Nat.le_refl _) q).1 ((List.takeWhile_sublist _).subset h)
      have h2 : near p q = true := takeWhile_near h
      exact ⟨h1.2, by simpa [near] using h2⟩
    · rintro ⟨h1, h2⟩
      exact desc_take (plcF_desc b k p p (Nat.le_refl _)) q ((plcF_mem b k p p (Nat.le_refl _) q).2 ⟨q.isLt, h1⟩) (by simp [near, h2])

/-- The same key is four bytes alike. -/
theorem mlen_of_key {b : List UInt8} {p k : Nat} {q : Fin p} (h1 : keyAt b p = some k) (h2 : keyAt b q.val = some k) : 4 ≤ mlen b p (p - q.val) := by
  have hq := q.isLt
  have hp : p + 4 ≤ b.length := by
    rcases Nat.lt_or_ge b.length (p + 4) with h | h
    · rw [keyV_none h] at h1; cases h1
    · exact h
  rw [keyV_some hp] at h1
  rw [keyV_some (show q.val + 4 ≤ b.length by omega)] at h2
  simp only [Option.some.injEq] at h1 h2
  have a0 := b[p].toNat_lt; have a1 := b[p + 1].toNat_lt; have a2 := b[p + 2].toNat_lt; have a3 := b[p + 3].toNat_lt
  have c0 := b[q.val].toNat_lt; have c1 := b[q.val + 1].toNat_lt; have c2 := b[q.val + 2].toNat_lt; have c3 := b[q.val + 3].toNat_lt
  have e0 : b[p] = b[q.val] := UInt8.toNat_inj.1 (by omega)
  have e1 : b[p + 1] = b[q.val + 1] := UInt8.toNat_inj.1 (by omega)
  have e2 : b[p + 2] = b[q.val + 2] := UInt8.toNat_inj.1 (by omega)
  have e3 : b[p + 3] = b[q.val + 3] := UInt8.toNat_inj.1 (by omega)
  refine mlen_ge (by omega) (by omega) (by omega) fun j hj => ⟨by omega, ?_⟩
  rw [show p + j - (p - q.val) = q.val + j by omega]
  rw [List.getElem?_eq_getElem (show p + j < b.length by omega), List.getElem?_eq_getElem (show q.val + j < b.length by omega)]
  have hj4 : j = 0 ∨ j = 1 ∨ j = 2 ∨ j = 3 := by omega
  rcases hj4 with rfl | rfl | rfl | rfl
  · exact congrArg some e0
  · exact congrArg some e1
  · exact congrArg some e2
  · exact congrArg some e3
theorem key_of_mlen {b : List UInt8} {p o : Nat} (h : 4 ≤ mlen b p o) : ∃ k, keyAt b p = some k ∧ keyAt b (p - o) = some k := by
  obtain ⟨h1, h2, h3, _⟩ := mlen_same (show 3 < mlen b p o by omega)
  have hs := fun j (hj : j < 4) => (mlen_same (show j < mlen b p o by omega)).2.2.2
  have e : ∀ j, j < 4 → b[p + j]? = b[p - o + j]? := fun j hj => by
    have := hs j hj
    rwa [show p + j - o = p - o + j by omega] at this
  refine ⟨_, keyV_some (by omega), ?_⟩
  have := keyV_some (b := b) (p := p) (by omega)
  rw [← this]
  unfold keyAt
  have g0 := e 0 (by omega)
  simp only [Nat.add_zero] at g0
  rw [g0, e 1 (by omega), e 2 (by omega), e 3 (by omega)]

/-- What has been found among the first places. -/
structure Found (b : List UInt8) (p : Nat) (pre : List (Fin p)) (s : Nat × Nat) : Prop where
  all : ∀ q ∈ pre, mlen b p (p - q.val) ≤ s.2
  is : pre = [] ∧ s = (0, 0) ∨ ∃ q0 ∈ pre, s.1 = p - q0.val ∧ s.2 = mlen b p (p - q0.val) ∧ ∀ q ∈ pre, q0.val < q.val → mlen b p (p - q.val) < s.2
theorem found_all {b : List UInt8} {p : Nat} : ∀ (r pre : List (Fin p)) (s : Nat × Nat), (pre ++ r).Pairwise (fun x y => y.val < x.val) → (∀ q ∈ pre ++ r, 4 ≤ mlen b p (p - q.val)) → Found b p pre s → Found b p (pre ++ r) (r.foldl (stepB b p) s)
  | [], pre, s, _, _, h => by simpa using h
  | q :: r, pre, s, hd, hm, h => by
    have e : pre ++ q :: r = (pre ++ [q]) ++ r := by simp
    rw [e] at hd hm ⊢
    rw [List.foldl_cons]
    refine found_all r (pre ++ [q]) _ hd hm ?_
    have hlt : ∀ x ∈ pre, q.val < x.val := fun x hx => by
      have := (List.pairwise_append.1 hd).1
      exact (List.pairwise_append.1 this).2.2 x hx q (by simp)
    have h4 := hm q (by simp)
    unfold stepB
    by_cases hs : s.2 < mlen b p (p - q.val)
    · rw [if_pos hs]
      refine ⟨fun x hx => ?_, .inr ⟨q, by simp, rfl, rfl, fun x hx hlt' => ?_⟩⟩
      · rcases List.mem_append.1 hx with hx | hx
        · have := h.all x hx
          show _ ≤ mlen b p (p - q.val)
          omega
        · simp at hx; subst hx; exact Nat.le_refl _
      · rcases List.mem_append.1 hx with hx | hx
        · have := h.all x hx
          show _ < mlen b p (p - q.val)
          omega
        · simp at hx; subst hx; omega
    · rw [if_neg hs]
      rcases h.is with ⟨rfl, rfl⟩ | ⟨q0, hq0, h1, h2, h3⟩
      · simp only at hs; omega
      · refine ⟨fun x hx => ?_, .inr ⟨q0, by simp [hq0], h1, h2, fun x hx hlt' => ?_⟩⟩
        · rcases List.mem_append.1 hx with hx | hx
          · exact h.all x hx
          · simp at hx; subst hx; omega
        · rcases List.mem_append.1 hx with hx | hx
          · exact h3 x hx hlt'
          · simp at hx; subst hx; have := hlt q0 hq0; omega
theorem found_pre {b : List UInt8} {p : Nat} {pre : List (Fin p)} (h : pre <+: placesOf b p) : Found b p pre (bestL b p pre) := by
  have := found_all (b := b) pre [] (0, 0) (by
    simp only [List.nil_append]
    exact (placesOf_desc b p).sublist h.sublist) (fun q hq => by
      simp only [List.nil_append] at hq
      obtain ⟨⟨k, h1, h2⟩, _⟩ := (placesOf_mem q).1 (h.subset hq)
      exact mlen_of_key h1 h2) ⟨fun q hq => (by cases hq), .inl ⟨rfl, rfl⟩⟩
  simpa [bestL] using this
/-- A place that has no such key is no match. -/
theorem few {b : List UInt8} {p j : Nat} (h1 : 1 ≤ j) (h2 : j ≤ reach p) (h : ∀ q : Fin p, q ∈ placesOf b p → q.val ≠ p - j) : mlen b p j < 4 := by
  rcases Nat.lt_or_ge (mlen b p j) 4 with h' | h'
  · exact h'
  · exfalso
    unfold reach at h2
    obtain ⟨k, g1, g2⟩ := key_of_mlen h'
    exact h ⟨p - j, by omega⟩ ((placesOf_mem _).2 ⟨⟨k, g1, g2⟩, by simp only; omega⟩) rfl
theorem best_done (b : List UInt8) (p : Nat) : takenR (bestL b p (placesOf b p)) = bestR b p := by
  have hf := found_pre (List.prefix_refl (placesOf b p))
  rcases hf.is with ⟨h1, h2⟩ | ⟨q0, hq0, h1, h2, h3⟩
  · have hn : bestR b p = (0, 0) := bestR_none fun j j1 j2 => few j1 j2 fun q hq => (by rw [h1] at hq; cases hq)
    rw [hn, h2]; rfl
  · obtain ⟨⟨k, g1, g2⟩, g3⟩ := (placesOf_mem q0).1 hq0
    have h4 := mlen_of_key g1 g2
    have hq := q0.isLt
    have : bestR b p = (p - q0.val, mlen b p (p - q0.val)) := by
      refine bestR_is (by omega) (by unfold reach; omega) h4 rfl (fun j j1 j2 => ?_) (fun j j1 j2 => ?_)
      · by_cases hx : ∃ q : Fin p, q ∈ placesOf b p ∧ q.val = p - j
        · obtain ⟨q, hq1, hq2⟩ := hx
          have := hf.all q hq1
          rw [h2, hq2, show p - (p - j) = j by unfold reach at j2; omega] at this
          exact this
        · have := few (b := b) j1 j2 fun q hq1 hq2 => hx ⟨q, hq1, hq2⟩
          omega
      · by_cases hx : ∃ q : Fin p, q ∈ placesOf b p ∧ q.val = p - j
        · obtain ⟨q, hq1, hq2⟩ := hx
          have := h3 q hq1 (by omega)
          rw [h2, hq2, show p - (p - j) = j by omega] at this
          exact this
        · have := few (b := b) j1 (by unfold reach; omega) fun q hq1 hq2 => hx ⟨q, hq1, hq2⟩
          omega
    rw [this]
    unfold takenR
    rw [h2, h1, if_neg (by omega), if_neg (by omega)]
theorem best_stop {b : List UInt8} {p : Nat} {pre : List (Fin p)} (h : pre <+: placesOf b p) (hp : p < b.length) (he : p + (bestL b p pre).2 = b.length) : takenR (bestL b p pre) = bestR b p := by
  have hf := found_pre h
  rcases hf.is with ⟨h1, h2⟩ | ⟨q0, hq0, h1, h2, h3⟩
  · rw [h2] at he; simp only at he; omega
  · obtain ⟨⟨k, g1, g2⟩, g3⟩ := (placesOf_mem q0).1 (h.subset hq0)
    have h4 := mlen_of_key g1 g2
    have hq := q0.isLt
    have : bestR b p = (p - q0.val, mlen b p (p - q0.val)) := by
      refine bestR_is (by omega) (by unfold reach; omega) h4 rfl (fun j j1 j2 => ?_) (fun j j1 j2 => ?_)
      · have := mlen_le b p j
        rw [← h2]; omega
      · by_cases hx : ∃ q : Fin p, q ∈ placesOf b p ∧ q.val = p - j
        · obtain ⟨q, hq1, hq2⟩ := hx
          have hin : q ∈ pre := by
            obtain ⟨r, hr⟩ := h
            rw [← hr] at hq1
            rcases List.mem_append.1 hq1 with h' | h'
            · exact h'
            · have hd := placesOf_desc b p
              rw [← hr] at hd
              have := (List.pairwise_append.1 hd).2.2 q0 hq0 q h'
              omega
          have := h3 q hin (by omega)
          rw [h2, hq2, show p - (p - j) = j by omega] at this
          exact this
        · have := few (b := b) j1 (by unfold reach; omega) fun q hq1 hq2 => hx ⟨q, hq1, hq2⟩
          omega
    rw [this]
    unfold takenR
    rw [h2, h1, if_neg (by omega), if_neg (by omega)]
theorem bestL_bound (b : List UInt8) (p : Nat) (pre : List (Fin p)) : (bestL b p pre).1 ≤ p ∧ (bestL b p pre).2 ≤ b.length - p := by
  unfold bestL
  have : ∀ (l : List (Fin p)) (s : Nat × Nat), s.1 ≤ p ∧ s.2 ≤ b.length - p → (l.foldl (stepB b p) s).1 ≤ p ∧ (l.foldl (stepB b p) s).2 ≤ b.length - p := by
    intro l
    induction l with
    | nil => intro s h; exact h
    | cons q l ih =>
      intro s h
      rw [List.foldl_cons]
      refine ih _ ?_
      unfold stepB
      split
      · exact ⟨by simp only; omega, mlen_le b p _⟩
      · exact h
  exact this pre (0, 0) ⟨Nat.zero_le _, Nat.zero_le _⟩
end Go.Proofs.YtkipiefcnjfdjaaGreat
