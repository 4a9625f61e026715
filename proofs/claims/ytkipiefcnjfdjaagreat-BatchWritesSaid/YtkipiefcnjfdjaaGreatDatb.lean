/- The data of the elder logs: entries and segments of the version 1, segments of the version 2; how cells stand for them. -/
import Derived.Test.YtkipiefcnjfdjaaGreatElem
namespace Go.Bs
open Go.RowKit
set_option linter.unusedVariables false

structure Old where
  stream : Int
  back : Int
  has : Bool
  data : List UInt8
structure Seg1 where
  epoch : Int
  base : Int
  entries : List Old

def rOld : Rp Old := rBy (fun x => (x.stream, x.back, x.has, x.data)) (rPair (rInt .u64) (rPair (rInt .u64) (rPair rBool rBytes)))
def rOlds : Rp (List Old) := rSl 4 rOld
def rSeg1 : Rp Seg1 := rBy (fun g => (g.epoch, g.base, g.entries)) (rPair (rInt .u64) (rPair (rInt .u64) rOlds))

section
variable {S : Nat → Prop} {w : World} {cs : List Value}
theorem old_cells {x : Old} (h : rOld.r S w cs x) : ∃ a c, cs = [.int .u64 x.stream, .int .u64 x.back, .bool x.has, .slice a x.data.length c] ∧ (0 ≤ x.stream ∧ x.stream ≤ 18446744073709551615) ∧ (0 ≤ x.back ∧ x.back ≤ 18446744073709551615) ∧ rBytes.r S w [.slice a x.data.length c] x.data := by
  obtain ⟨c1, c2, rfl, ⟨rfl, hw⟩, d1, d2, rfl, ⟨rfl, hw2⟩, e1, e2, rfl, rfl, h2⟩ := h
  obtain ⟨a, c, rfl, h3, _⟩ := sl_form h2
  exact ⟨a, c, rfl, bounds_u64 hw, bounds_u64 hw2, h3⟩
theorem seg1_cells {x : Seg1} (h : rSeg1.r S w cs x) : ∃ a c, cs = [.int .u64 x.epoch, .int .u64 x.base, .slice a x.entries.length c] ∧ (0 ≤ x.epoch ∧ x.epoch ≤ 18446744073709551615) ∧ (0 ≤ x.base ∧ x.base ≤ 18446744073709551615) ∧ rOlds.r S w [.slice a x.entries.length c] x.entries := by
  obtain ⟨c1, c2, rfl, ⟨rfl, hw⟩, d1, d2, rfl, ⟨rfl, hw2⟩, h2⟩ := h
  obtain ⟨a, c, rfl, h3, _⟩ := sl_form h2
  exact ⟨a, c, rfl, bounds_u64 hw, bounds_u64 hw2, h3⟩
theorem old_at {xs : List Old} {a : Option Addr} {n c : Nat} (h : rOlds.r S w [.slice a n c] xs) {i : Nat} (hi : i < xs.length) : ∃ b off, a = some ⟨b, off, none⟩ ∧ S b ∧ ∃ a' c', w.cell? ⟨b, off + i * 4, none⟩ = some (.int .u64 xs[i].stream) ∧ w.cell? ⟨b, off + i * 4 + 1, none⟩ = some (.int .u64 xs[i].back) ∧ w.cell? ⟨b, off + i * 4 + 2, none⟩ = some (.bool xs[i].has) ∧ w.cell? ⟨b, off + i * 4 + 3, none⟩ = some (.slice a' xs[i].data.length c') ∧
    (0 ≤ xs[i].stream ∧ xs[i].stream ≤ 18446744073709551615) ∧ (0 ≤ xs[i].back ∧ xs[i].back ≤ 18446744073709551615) ∧ rBytes.r S w [.slice a' xs[i].data.length c'] xs[i].data := by
  obtain ⟨b, off, e, hS, cs, _, hc, hA⟩ := sl_at h hi
  obtain ⟨a', c', rfl, h1, h2, h3⟩ := old_cells hA
  exact ⟨b, off, e, hS, a', c', hc 0 _ rfl, hc 1 _ rfl, hc 2 _ rfl, hc 3 _ rfl, h1, h2, h3⟩
end

/-- All things, each by its place. -/
def allI {α : Type} (p : Nat → α → Bool) : Nat → List α → Bool
  | _, [] => true
  | i, x :: l => p i x && allI p (i + 1) l
theorem allI_step {α : Type} (p : Nat → α → Bool) (l : List α) (k : Nat) (h : k < l.length) : allI p k (l.drop k) = (p k l[k] && allI p (k + 1) (l.drop (k + 1))) := by
  rw [List.drop_eq_getElem_cons h]; rfl
theorem allI_congr {α : Type} {p q : Nat → α → Bool} : ∀ (i : Nat) (l : List α), (∀ j x, l[j]? = some x → p (i + j) x = q (i + j) x) → allI p i l = allI q i l
  | _, [], _ => rfl
  | i, x :: l, h => by
    have h0 := h 0 x rfl
    simp only [Nat.add_zero] at h0
    have h1 : allI p (i + 1) l = allI q (i + 1) l := allI_congr (i + 1) l fun j y hj => by
      have h2 := h (j + 1) y hj
      have e : i + (j + 1) = i + 1 + j := by omega
      rw [e] at h2; exact h2
    show (p i x && allI p (i + 1) l) = (q i x && allI q (i + 1) l)
    rw [h0, h1]
theorem allI_all {α : Type} {p : α → Bool} : ∀ (i : Nat) (l : List α), allI (fun _ => p) i l = l.all p
  | _, [] => rfl
  | i, x :: l => by rw [List.all_cons, ← allI_all (i + 1) l]; rfl

def oldR (pos : Int) (x : Old) : Bool := if x.has then decide (x.back < pos) else decide (x.back = 0)
def totalO (l : List Old) : Nat := (l.map fun e => e.data.length).sum
theorem totalO_step (l : List Old) (k : Nat) (h : k < l.length) : totalO (l.take (k + 1)) = totalO (l.take k) + l[k].data.length := by
  unfold totalO
  rw [List.take_succ_eq_append_getElem h, List.map_append, List.sum_append]
  simp
theorem totalO_take_le (l : List Old) (k : Nat) : totalO (l.take k) ≤ totalO l := by
  have : totalO l = totalO (l.take k) + totalO (l.drop k) := by
    unfold totalO
    rw [← List.sum_append, ← List.map_append, List.take_append_drop]
  omega
/-- So many positions are some, from one on. -/
def numR (base : Int) (n : Nat) : Bool := poR base && decide (base + n ≤ 4611686018427387904)
def seg1R (u : Seg1) : Bool := epR u.epoch && (decide (u.entries.length ≤ 400) && (numR u.base u.entries.length && (decide (totalO u.entries ≤ 1048576) && allI (fun i => oldR (u.base + i)) 0 u.entries)))
end Go.Bs
