/- Plain: lists of numbers as words, and back. -/
import Derived.Test.YtlkpnpbodbokkaaDoorWpB
import Derived.Test.YtlkpnpbodbokkaaDoorWtC
namespace Go.Bs
theorem dec_mem (u : Nat) : ∀ c ∈ Lib.decDigits u, 48 ≤ c.toNat ∧ c.toNat ≤ 57 := by
  induction u using Nat.strongRecOn with
  | _ u ih =>
    intro c hc
    by_cases h : u < 10
    · rw [Lib.decDigits_one h, List.mem_singleton] at hc
      rw [hc, u8_dig u h]; omega
    · rw [dec_big' u (by omega), List.mem_append, List.mem_singleton] at hc
      rcases hc with hc | hc
      · exact ih (u / 10) (by omega) c hc
      · rw [hc, u8_dig _ (Nat.mod_lt _ (by decide))]; omega
def nums : List (List UInt8) → Option (List Nat)
  | [] => some []
  | x :: r => match numOf x with
    | none => none
    | some v => (nums r).map (v :: ·)
theorem nums_snoc (A : List (List UInt8)) (o : List Nat) (x : List UInt8) (v : Nat) (h : nums A = some o) (hx : numOf x = some v) : nums (A ++ [x]) = some (o ++ [v]) := by
  induction A generalizing o with
  | nil =>
    rw [nums] at h
    injection h with h
    subst h
    simp [nums, hx]
  | cons a A ih =>
    rw [nums] at h
    rw [List.cons_append, nums]
    cases hv : numOf a with
    | none => rw [hv] at h; cases h
    | some w =>
      rw [hv] at h
      cases ho : nums A with
      | none => rw [ho] at h; cases h
      | some p =>
        rw [ho] at h
        injection h with h
        rw [← h]
        simp only [ih p ho]
        rfl
theorem nums_none (A r : List (List UInt8)) (x : List UInt8) (hx : numOf x = none) : nums (A ++ x :: r) = none := by
  induction A with
  | nil => rw [List.nil_append, nums, hx]
  | cons a A ih =>
    rw [List.cons_append, nums]
    cases hv : numOf a with
    | none => rfl
    | some w => simp only [ih]; rfl
theorem nums_map (l : List Nat) (h : ∀ x ∈ l, x < 18446744073709551616) : nums (l.map Lib.decDigits) = some l := by
  induction l with
  | nil => rfl
  | cons a l ih =>
    rw [List.map_cons, nums, numOf_dec a (h a (List.mem_cons_self ..))]
    simp only [ih (fun x hx => h x (List.mem_cons_of_mem _ hx))]
    rfl
theorem map_nums (L : List (List UInt8)) (l : List Nat) (h : nums L = some l) : L = l.map Lib.decDigits ∧ ∀ x ∈ l, x < 18446744073709551616 := by
  induction L generalizing l with
  | nil => rw [nums] at h; injection h with h; subst h; simp
  | cons a A ih =>
    rw [nums] at h
    cases hv : numOf a with
    | none => rw [hv] at h; cases h
    | some w =>
      rw [hv] at h
      cases ho : nums A with
      | none => rw [ho] at h; cases h
      | some p =>
        rw [ho] at h
        injection h with h
        subst h
        obtain ⟨h1, h2⟩ := ih p ho
        obtain ⟨h3, h4⟩ := numOf_some a w hv
        refine ⟨by rw [List.map_cons, h3, ← h1], ?_⟩
        intro x hx
        rcases List.mem_cons.1 hx with rfl | hx
        · exact h4
        · exact h2 x hx
def lstOf (s : List UInt8) : Option (List Nat) := if s = [45] then some [] else nums (spl 44 s)
theorem jn_jl (l : List Nat) (k : Nat) (hk : k ≤ l.length) : jnTo l k = jl 44 ((l.take k).map Lib.decDigits) := by
  induction k with
  | zero => rfl
  | succ k ih =>
    rw [List.take_add_one, List.getElem?_eq_getElem (by omega), List.map_append]
    show _ = jl 44 (_ ++ [Lib.decDigits l[k]])
    rw [jl_snoc, jnTo, jnStep, ih (by omega)]
    have hd : l.getD k 0 = l[k] := by rw [List.getD_eq_getElem?_getD, List.getElem?_eq_getElem (by omega)]; rfl
    rw [hd]
    cases k with
    | zero => simp [jl]
    | succ k =>
      rw [if_pos (by omega), if_neg (by
        intro e
        have := congrArg List.length e
        simp only [List.length_map, List.length_take, List.length_nil] at this
        omega)]
      simp
theorem listW_jl (l : List Nat) (h : l ≠ []) : listW l = jl 44 (l.map Lib.decDigits) := by
  unfold listW
  rw [if_neg h, jn_jl l _ (Nat.le_refl _), List.take_length]
theorem dec_no (l : List Nat) : ∀ x ∈ l.map Lib.decDigits, (44 : UInt8) ∉ x := by
  intro x hx h
  obtain ⟨u, _, rfl⟩ := List.mem_map.1 hx
  have := dec_mem u 44 h
  have h2 : (44 : UInt8).toNat = 44 := rfl
  omega
theorem lst_listW (l : List Nat) (h : ∀ x ∈ l, x < 18446744073709551616) : lstOf (listW l) = some l := by
  unfold lstOf
  by_cases hl : l = []
  · subst hl; rfl
  · have hs : spl 44 (listW l) = l.map Lib.decDigits := by
      rw [listW_jl l hl]
      exact spl_jl 44 _ (by simpa using hl) (dec_no l)
    rw [if_neg, hs, nums_map l h]
    intro e
    rw [e] at hs
    have h1 : spl 44 [45] = [[45]] := by decide
    rw [h1] at hs
    cases l with
    | nil => exact hl rfl
    | cons a r =>
      rw [List.map_cons] at hs
      injection hs with h2 _
      have := dec_mem a 45 (by rw [← h2]; simp)
      have h3 : (45 : UInt8).toNat = 45 := rfl
      omega
theorem listW_lst (s : List UInt8) (l : List Nat) (h : lstOf s = some l) : listW l = s ∧ ∀ x ∈ l, x < 18446744073709551616 := by
  unfold lstOf at h
  split at h
  · rename_i e
    injection h with h
    subst h
    exact ⟨by rw [e]; rfl, by simp⟩
  · obtain ⟨h1, h2⟩ := map_nums _ _ h
    have hl : l ≠ [] := by
      intro e
      rw [e] at h1
      exact spl_ne 44 s h1
    exact ⟨by rw [listW_jl l hl, ← h1, jl_spl], h2⟩
end Go.Bs
