/- What goes up and comes down again: plain. -/
import Derived.Test.YtlbchenleimopaaSuC
import Derived.Test.YtlbchenleimopaaSuJ
namespace Go.Proofs.Ytlbchenleimopaa
open Go.RowKit Go.Bs
set_option linter.unusedVariables false
set_option linter.unusedSimpArgs false

theorem allI_get {α : Type} {p : Nat → α → Bool} {l : List α} (h : allI p 0 l = true) (k : Nat) (hk : k < l.length) : p k l[k] = true := by
  have h1 := allI_drop p l 0 k h
  rw [Nat.zero_add, allI_step p l k hk] at h1
  simp only [Bool.and_eq_true] at h1
  exact h1.1
theorem allI_mk {α : Type} {p : Nat → α → Bool} : ∀ (l : List α) (i : Nat), (∀ (k : Nat) (hk : k < l.length), p (i + k) l[k] = true) → allI p i l = true
  | [], _, _ => rfl
  | x :: l, i, h => by
    simp only [allI, Bool.and_eq_true]
    refine ⟨h 0 (by simp), allI_mk l (i + 1) fun k hk => ?_⟩
    have := h (k + 1) (by simp; omega)
    simp only [List.getElem_cons_succ] at this
    rw [show i + 1 + k = i + (k + 1) by omega]
    exact this

theorem seg2R_facts {e : Int} {l : List Batch} (h : seg2R ⟨e, l⟩ = true) : epR e = true ∧ l.length ≤ 32 ∧ ∀ (k : Nat) (hk : k < l.length), bareB l[k].entries = true ∧ batchR l[k] = true ∧ mayR e (prevB l k) l[k] = true := by
  simp only [seg2R, Bool.and_eq_true, decide_eq_true_eq] at h
  refine ⟨h.1, h.2.1, fun k hk => ?_⟩
  have := allI_get h.2.2 k hk
  simpa only [p2, Bool.and_eq_true] using this

theorem chain_mk (e : Int) (l : List Batch) (h : ∀ (k : Nat) (hk : k < l.length), batchR l[k] = true ∧ mayR e (prevB l k) l[k] = true) : ∀ (n k : Nat), k + n = l.length → chainR e (prevB l k) (l.drop k) = true
  | 0, k, hk => by rw [List.drop_of_length_le (by omega)]; rfl
  | n + 1, k, hk => by
    rw [chainR_step e l k (by omega)]
    obtain ⟨h1, h2⟩ := h k (by omega)
    rw [h1, h2, chain_mk e l h n (k + 1) (by omega)]; rfl
theorem chain_get (e : Int) (l : List Batch) : ∀ (n k : Nat), k + n = l.length → chainR e (prevB l k) (l.drop k) = true → ∀ (j : Nat) (hj : j < l.length), k ≤ j → batchR l[j] = true ∧ mayR e (prevB l j) l[j] = true
  | 0, k, hk, _, j, hj, hkj => by omega
  | n + 1, k, hk, h, j, hj, hkj => by
    rw [chainR_step e l k (by omega)] at h
    simp only [Bool.and_eq_true] at h
    by_cases hjk : j = k
    · subst hjk; exact ⟨h.1, h.2.1⟩
    · exact chain_get e l n (k + 1) (by omega) h.2.2 j hj (by omega)
/-- A segment of the version 2 of at most 16 batches is one of the third. -/
theorem seg2_right {e : Int} {l : List Batch} (h : seg2R ⟨e, l⟩ = true) (h16 : l.length ≤ 16) : segR ⟨e, l⟩ = true := by
  obtain ⟨h1, h2, h3⟩ := seg2R_facts h
  simp only [segR, Bool.and_eq_true, decide_eq_true_eq]
  refine ⟨h1, h16, ?_⟩
  have := chain_mk e l (fun k hk => (h3 k hk).2) l.length 0 (by omega)
  exact this

theorem cutL_single {x : Link} (h : x.backs.length ≤ 1) : cutL x = x := by
  obtain ⟨s, b⟩ := x
  simp only [cutL]
  rw [List.take_of_length_le h]
theorem map_same {α : Type} (f : α → α) : ∀ (l : List α), (∀ x ∈ l, f x = x) → l.map f = l
  | [], _ => rfl
  | x :: l, h => by rw [List.map_cons, h x (List.mem_cons_self ..), map_same f l fun y hy => h y (List.mem_cons_of_mem _ hy)]
theorem cutB_bare {b : Batch} (h : bareB b.entries = true) : cutB b = b := by
  obtain ⟨e, p, l⟩ := b
  simp only [cutB]
  congr 1
  refine map_same _ _ fun x hx => ?_
  have h1 := List.all_eq_true.1 h x hx
  obtain ⟨ls, d⟩ := x
  simp only [cutE]
  congr 1
  refine map_same _ _ fun y hy => cutL_single ?_
  have h2 := List.all_eq_true.1 h1 y hy
  simpa using h2
theorem cut_same {e : Int} {l : List Batch} (h : seg2R ⟨e, l⟩ = true) : l.map cutB = l := by
  obtain ⟨_, _, h3⟩ := seg2R_facts h
  refine map_same _ _ fun x hx => ?_
  obtain ⟨k, hk, rfl⟩ := List.getElem_of_mem hx
  exact cutB_bare (h3 k hk).1

/-- What has been cut is of the version 2. -/
theorem bare_cut (b : Batch) : bareB (cutB b).entries = true := by
  simp only [bareB, cutB, List.all_map, List.all_eq_true]
  intro x _
  simp only [Function.comp, cutE, singleL, List.all_map, List.all_eq_true]
  intro y _
  simp [cutL]; omega
theorem falls_take (p : Int) : ∀ (l : List Int), fallsB p l = true → fallsB p (l.take 1) = true
  | [], _ => rfl
  | x :: l, h => by
    simp only [fallsB, Bool.and_eq_true] at h
    simp [fallsB, h.1]
theorem linkR_cut {p : Int} {x : Link} (h : linkR p x = true) : linkR p (cutL x) = true := by
  simp only [linkR, Bool.and_eq_true, decide_eq_true_eq] at h
  have h2 := falls_take p _ h.2
  simp only [linkR, cutL, Bool.and_eq_true, decide_eq_true_eq]
  exact ⟨by simp; omega, h2⟩
theorem entryR_cut {p : Int} {x : Entry} (h : entryR p x = true) : entryR p (cutE x) = true := by
  simp only [entryR, linksR, Bool.and_eq_true, decide_eq_true_eq] at h
  simp only [entryR, linksR, cutE, Bool.and_eq_true, decide_eq_true_eq, List.length_map, List.map_map, List.all_map]
  obtain ⟨⟨h1, h2, h3⟩, h4⟩ := h
  refine ⟨⟨h1, h2, ?_⟩, decide_eq_true h4⟩
  rw [List.all_eq_true] at h3 ⊢
  exact fun y hy => linkR_cut (h3 y hy)
theorem entriesR_cut : ∀ (l : List Entry) (p : Int), entriesR p l = true → entriesR p (l.map cutE) = true
  | [], _, _ => rfl
  | x :: l, p, h => by
    simp only [entriesR, Bool.and_eq_true] at h
    simp only [List.map_cons, entriesR, Bool.and_eq_true]
    exact ⟨entryR_cut h.1, entriesR_cut l _ h.2⟩
theorem total_cut (l : List Entry) : total (l.map cutE) = total l := by
  unfold total
  rw [List.map_map]; rfl
theorem batchR_cut {b : Batch} (h : batchR b = true) : batchR (cutB b) = true := by
  simp only [batchR, Bool.and_eq_true] at h
  simp only [batchR, cutB, Bool.and_eq_true, List.length_map, total_cut]
  exact ⟨h.1, h.2.1, h.2.2.1, entriesR_cut _ _ h.2.2.2⟩
theorem prevB_cut (l : List Batch) (k : Nat) : prevB (l.map cutB) k = (prevB l k).map cutB := by
  unfold prevB
  split
  · rfl
  · rw [List.getElem?_map]
theorem mayR_cut (e : Int) (p : Option Batch) (b : Batch) : mayR e (p.map cutB) (cutB b) = mayR e p b := by
  cases p with
  | none => rfl
  | some p =>
    have e1 : ((cutB p).entries.length : Int) = p.entries.length := by simp [cutB]
    show (decide ((cutB b).epoch ≤ e) && (decide ((cutB p).epoch ≤ (cutB b).epoch) && decide ((cutB p).base + ((cutB p).entries.length : Int) ≤ (cutB b).base))) = _
    rw [e1]; rfl
theorem seg2_cut {e : Int} {l : List Batch} (h : segR ⟨e, l⟩ = true) : seg2R ⟨e, l.map cutB⟩ = true := by
  simp only [segR, Bool.and_eq_true, decide_eq_true_eq] at h
  simp only [seg2R, Bool.and_eq_true, decide_eq_true_eq, List.length_map]
  refine ⟨h.1, by omega, allI_mk _ 0 fun k hk => ?_⟩
  simp only [List.length_map] at hk
  obtain ⟨h1, h2⟩ := chain_get e l l.length 0 (by omega) h.2.2 k hk (by omega)
  simp only [p2, Bool.and_eq_true, Nat.zero_add, List.getElem_map]
  exact ⟨bare_cut _, batchR_cut h1, by rw [prevB_cut, mayR_cut]; exact h2⟩
theorem down_up {e : Int} {l : List Batch} (h : segR ⟨e, l⟩ = true) : up2R ⟨e, l.map cutB⟩ = (⟨e, l.map cutB⟩, 0) := by
  have h16 : l.length ≤ 16 := by
    simp only [segR, Bool.and_eq_true, decide_eq_true_eq] at h
    exact h.2.1
  simp only [up2R]
  rw [if_pos (seg2_cut h), if_pos (by simpa using h16)]
/-- Either all is well, or there is a code. -/
theorem up2R_cases (e : Int) (l : List Batch) : (up2R ⟨e, l⟩ = (⟨e, l⟩, 0) ∧ seg2R ⟨e, l⟩ = true ∧ l.length ≤ 16) ∨ (up2R ⟨e, l⟩ = (⟨0, []⟩, 3)) ∨ (up2R ⟨e, l⟩ = (⟨0, []⟩, 15)) := by
  unfold up2R
  cases h : seg2R ⟨e, l⟩
  · exact .inr (.inl rfl)
  · by_cases h2 : l.length ≤ 16
    · exact .inl ⟨by rw [if_pos rfl]; exact if_pos h2, rfl, h2⟩
    · exact .inr (.inr (by rw [if_pos rfl]; exact if_neg h2))
theorem down_same {e : Int} {l : List Batch} (h : seg2R ⟨e, l⟩ = true) (h16 : l.length ≤ 16) : downR ⟨e, l⟩ = (⟨e, l⟩, 0) := by
  simp only [downR]
  rw [if_pos (seg2_right h h16)]
  simp only [cut_same h]
end Go.Proofs.Ytlbchenleimopaa
