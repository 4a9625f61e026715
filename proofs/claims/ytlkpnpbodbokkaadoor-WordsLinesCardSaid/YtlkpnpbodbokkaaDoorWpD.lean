/- Plain: lines and their words. -/
import Derived.Test.YtlkpnpbodbokkaaDoorWpA
namespace Go.Bs
def inR (c : UInt8) : Bool := decide (33 ≤ c.toNat ∧ c.toNat ≤ 126)
def plainB (p : List UInt8) : Bool := !p.isEmpty && p.all inR
def lnB (b : Bool) : List UInt8 → Bool
  | [] => !b
  | c :: r => if c = 32 then !b && lnB true r else inR c && lnB false r
def partsOK (b : Bool) : List (List UInt8) → Bool
  | [] => false
  | p :: r => p.all inR && (!b || !p.isEmpty) && r.all plainB
theorem partsOK_true (L : List (List UInt8)) (h : L ≠ []) : partsOK true L = L.all plainB := by
  cases L with
  | nil => exact absurd rfl h
  | cons p r =>
    show (p.all inR && (!true || !p.isEmpty) && r.all plainB) = (p :: r).all plainB
    rw [List.all_cons]
    show _ = ((!p.isEmpty && p.all inR) && r.all plainB)
    generalize p.isEmpty = x
    generalize p.all inR = y
    generalize r.all plainB = z
    revert x y z
    decide
theorem lnB_parts (s : List UInt8) : ∀ b, lnB b s = partsOK b (spl 32 s) := by
  induction s with
  | nil => intro b; cases b <;> rfl
  | cons c r ih =>
    intro b
    unfold lnB spl
    by_cases hc : c = 32
    · rw [if_pos hc, if_pos hc, ih true, partsOK_true _ (spl_ne 32 r), partsOK]
      cases b <;> simp
    · rw [if_neg hc, if_neg hc, ih false]
      cases hs : spl 32 r with
      | nil => exact absurd hs (spl_ne 32 r)
      | cons p t =>
        simp only [partsOK, List.headD_cons, List.tail_cons, List.all_cons, List.isEmpty_cons]
        cases b <;> cases inR c <;> simp
/-- Is it a line? -/
def lineB (s : List UInt8) : Bool := s.isEmpty || lnB true s
def wordsB (s : List UInt8) : List (List UInt8) := if s = [] then [] else spl 32 s
theorem lineB_words (s : List UInt8) (h : s ≠ []) : lineB s = (spl 32 s).all plainB := by
  unfold lineB
  rw [lnB_parts, partsOK_true _ (spl_ne 32 s)]
  cases s with
  | nil => exact absurd rfl h
  | cons a r => rfl
/-- Which line is none first. -/
def lnBad (k : Nat) : List (List UInt8) → Option Nat
  | [] => none
  | [p] => if p = [] then none else some (k + 1)
  | p :: q :: r => if lineB p then lnBad (k + 1) (q :: r) else some (k + 1)
theorem lnBad_more (k : Nat) (p : List UInt8) (L : List (List UInt8)) (h : L ≠ []) : lnBad k (p :: L) = if lineB p then lnBad (k + 1) L else some (k + 1) := by
  cases L with
  | nil => exact absurd rfl h
  | cons q r => rfl
theorem spl_step (c : UInt8) (s : List UInt8) (f i : Nat) (hf : f ≤ i) (hi : i < s.length) (hc : s.getD i 0 = c) (hno : c ∉ (s.drop f).take (i - f)) : spl c (s.drop f) = (s.drop f).take (i - f) :: spl c (s.drop (i + 1)) := by
  have e : s.drop f = (s.drop f).take (i - f) ++ c :: s.drop (i + 1) := by
    have h1 := (List.take_append_drop (i - f) (s.drop f)).symm
    rw [List.drop_drop, show f + (i - f) = i by omega, List.drop_eq_getElem_cons hi] at h1
    have h2 : s[i] = c := by rw [← hc, List.getD_eq_getElem?_getD, List.getElem?_eq_getElem hi]; rfl
    rw [h2] at h1
    exact h1
  conv => lhs; rw [e]
  exact spl_app c _ _ hno
theorem no_step (c : UInt8) (s : List UInt8) (f i : Nat) (hf : f ≤ i) (hi : i < s.length) (hc : s.getD i 0 ≠ c) (hno : c ∉ (s.drop f).take (i - f)) : c ∉ (s.drop f).take (i + 1 - f) := by
  rw [show i + 1 - f = (i - f) + 1 by omega, List.take_add_one, List.mem_append, not_or]
  refine ⟨hno, ?_⟩
  rw [List.getElem?_drop, show f + (i - f) = i by omega, List.getElem?_eq_getElem hi]
  simp only [Option.toList_some, List.mem_singleton]
  intro e
  apply hc
  rw [List.getD_eq_getElem?_getD, List.getElem?_eq_getElem hi, e]
  rfl
end Go.Bs
