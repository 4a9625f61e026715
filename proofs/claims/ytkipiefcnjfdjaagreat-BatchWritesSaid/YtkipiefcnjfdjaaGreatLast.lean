/- A drawn region whose last operation waits for all others: the others in whatever order, then that one. -/
import Derived.Test.YtkipiefcnjfdjaaGreatBase
import Derived.StillTail
import Derived.RegionTactic
import Derived.OrdersHeld
import Derived.Deep.RegionHeld
namespace Go.Bs
open Go.RowKit
set_option linter.unusedVariables false

/-- Nothing, in the last operation's place. -/
def noopOf (o : Oper) : Oper := { o with op := .move (.const (.bool true)), guard := none }
def noopLast : List Oper → List Oper
  | [] => []
  | [o] => [noopOf o]
  | o :: p :: l => o :: noopLast (p :: l)
theorem noopLast_length : ∀ l, (noopLast l).length = l.length
  | [] => rfl
  | [_] => rfl
  | _ :: p :: l => by simp [noopLast, noopLast_length (p :: l)]
theorem noopLast_get : ∀ (l : List Oper) (i : Nat), (noopLast l)[i]? = if i + 1 = l.length then (l[i]?).map noopOf else l[i]?
  | [], i => by simp [noopLast]
  | [o], i => by
    cases i with
    | zero => simp [noopLast]
    | succ i => simp [noopLast]
  | o :: p :: l, i => by
    cases i with
    | zero => simp [noopLast]
    | succ i =>
      have := noopLast_get (p :: l) i
      simp only [noopLast, List.getElem?_cons_succ, List.length_cons] at *
      rw [this]
      by_cases h : i + 1 = l.length + 1
      · rw [if_pos h, if_pos (by omega)]
      · rw [if_neg h, if_neg (by omega)]

/-- The last operation waits for each other one, if through others, yields nothing, is not guarded; and all wait for what stands ahead of them alone. -/
def lastB (md : Region.Mode) (l : List Oper) : Bool :=
  (match l.getLast? with | none => false | some o => o.dst.isNone && o.guard.isNone) && (Region.sinkB md l.toArray (l.length - 1) && Region.chainB md l.toArray (l.length - 1)) &&
    (List.range l.length).all fun i => match l[i]? with | none => true | some o => o.after.all fun e => decide (e.on < i)

section
variable {P : Program} {md : Region.Mode}

theorem ready_noop (l : List Oper) (listed : Array Bool) : Region.ready md (noopLast l).toArray listed = Region.ready md l.toArray listed := by
  unfold Region.ready
  simp only [List.size_toArray, noopLast_length]
  refine List.filter_congr fun i _ => ?_
  simp only [List.getElem?_toArray, noopLast_get]
  by_cases h : i + 1 = l.length
  · rw [if_pos h]
    cases l[i]? <;> rfl
  · rw [if_neg h]

theorem yielded_noop (l : List Oper) (t : Array Value) : yielded (noopLast l).toArray t = yielded l.toArray t := by
  funext j
  unfold yielded
  simp only [List.getElem?_toArray, noopLast_get]
  by_cases h : j + 1 = l.length
  · rw [if_pos h]
    cases l[j]? <;> rfl
  · rw [if_neg h]

theorem wpOp_exits {ops : Array Oper} {Q Q' : Exit → Act → World → Prop} {i : Nat} {K : Act → World → Prop} {a : Act} {w : World} (hQ : ∀ e a w, e ≠ .normal → Q' e a w → Q e a w) (h : wpOp P ops Q' i K a w) : wpOp P ops Q i K a w := by
  unfold wpOp at *
  split
  · rename_i ho
    simp only [ho] at h
    exact h
  · rename_i o ho
    simp only [ho] at h
    split
    · rename_i hw
      simp only [hw, if_true] at h
      have hl : LetsOut Q' → LetsOut Q := fun ⟨a, w, h⟩ => ⟨a, w, hQ _ _ _ (by simp) h⟩
      rcases h with h | ⟨h1, h2⟩
      · left
        unfold Oper.wp at *
        generalize (execOp a.eval o).run P w = r at *
        cases r with
        | ok n w' =>
          cases n <;> simp only [Oper.upon] at h ⊢
          case value u => exact h
          case skip => exact h
          case defer d => exact h
          case enter f args =>
            refine Calls.mono h fun e w'' he => ?_
            cases e with
            | returned u => exact he
            | panicked c => exact hQ _ _ _ (by simp) he
            | outgrown => exact hl he
          case row row args => exact h
        | halt x w' =>
          cases x <;> simp only [Oper.upon] at h ⊢
          case panic u => exact hQ _ _ _ (by simp) h
      · exact .inr ⟨h1, hl h2⟩
    · rename_i hw
      simp only [hw] at h
      exact h

theorem wpOp_noop {l : List Oper} {Q : Exit → Act → World → Prop} {i : Nat} {K : Act → World → Prop} {a : Act} {w : World} (hi : i + 1 ≠ l.length) (h : wpOp P (noopLast l).toArray Q i K a w) : wpOp P l.toArray Q i K a w := by
  unfold wpOp at *
  rw [yielded_noop] at h
  simp only [List.getElem?_toArray, noopLast_get, if_neg hi] at h ⊢
  exact h

/-- What is asked behind the others: the last one, by itself. -/
def lastQ (P : Program) (l : List Oper) (o : Oper) (Q : Exit → Act → World → Prop) : Exit → Act → World → Prop
  | .normal, a, w => wpList P l.toArray Q [o] a w
  | e, a, w => Q e a w

theorem lastQ_other {l : List Oper} {o : Oper} {Q : Exit → Act → World → Prop} {e : Exit} {a : Act} {w : World} (he : e ≠ .normal) (h : lastQ P l o Q e a w) : Q e a w := by
  cases e <;> first | exact h | exact absurd rfl he

theorem ready_some {ops : Array Oper} {listed : Array Bool} (hd : ∀ (i : Nat) (o : Oper), ops[i]? = some o → ∀ e ∈ o.after, e.on < i) (hs : listed.size = ops.size) : ∀ (n j : Nat), j < n → j < ops.size → listed.getD j true = false → Region.ready md ops listed ≠ []
  | 0, j, h, _, _ => by omega
  | n + 1, j, h, hj, hl => by
    intro h0
    have hr : j ∉ Region.ready md ops listed := by rw [h0]; simp
    apply hr
    rw [mem_ready]
    have ho : ops[j]? = some ops[j] := Array.getElem?_eq_getElem hj
    refine ⟨hl, ops[j], ho, fun e he hb => ?_⟩
    have hlt := hd j _ ho e he
    cases hg : listed.getD e.on false with
    | true => rfl
    | false => exact absurd h0 (ready_some hd hs n e.on (by omega) (by omega) (getD_in (by omega) hg))

theorem wpAny_last {l : List Oper} {o : Oper} {Q : Exit → Act → World → Prop} (hlast : l[l.length - 1]? = some o) (hpos : 0 < l.length) (hdst : o.dst = none) (hgd : o.guard = none)
    (hs1 : Region.sinkB md l.toArray (l.length - 1) = true) (hc1 : Region.chainB md l.toArray (l.length - 1) = true) (hd : ∀ (i : Nat) (o : Oper), l.toArray[i]? = some o → ∀ e ∈ o.after, e.on < i) :
    ∀ (fuel : Nat) (listed : Array Bool) (a : Act) (w : World), HeadInv md l.toArray (l.length - 1) listed →
      wpAny P md (noopLast l).toArray (lastQ P l o Q) fuel listed a w → wpAny P md l.toArray Q fuel listed a w
  | 0, listed, a, w, inv, h => by
    have hs : listed.size = l.length := by simpa using inv.size
    have hl := inv.tail (l.length - 1) (Nat.le_refl _) (by simp; omega)
    exact absurd (by rw [← ready_noop]; exact h.1) (ready_some (md := md) hd (by simpa using hs) _ _ (Nat.lt_succ_self _) (by simp; omega) hl)
  | fuel + 1, listed, a, w, inv, h => by
    have hs : listed.size = l.length := by simpa using inv.size
    have hl := inv.tail (l.length - 1) (Nat.le_refl _) (by simp; omega)
    have hne := ready_some (md := md) hd (by simpa using hs) _ _ (Nat.lt_succ_self _) (by simp; omega) hl
    refine ⟨fun h0 => absurd h0 hne, fun i hi => ?_⟩
    have h2 := h.2 i (by rw [ready_noop]; exact hi)
    by_cases hin : i + 1 = l.length
    · -- the last one: all others have come up
      obtain rfl : i = l.length - 1 := by omega
      have hr := mem_ready.1 hi
      have hall : ∀ j, j < l.length → (listed.setIfInBounds (l.length - 1) true).getD j true = true := by
        intro j hj
        by_cases hjl : j = l.length - 1
        · subst hjl; simp [hs]
        · rw [getD_set_ne true (by omega)]
          cases hg : listed.getD j true with
          | true => rfl
          | false => exact absurd hi (tail_waits hs1 hc1 (by simp; omega) inv _ j rfl (by omega) hg _ (Nat.le_refl _))
      have hrd : Region.ready md l.toArray (listed.setIfInBounds (l.length - 1) true) = [] := by
        rw [List.eq_nil_iff_forall_not_mem]
        intro j hj
        obtain ⟨h1, o', ho', _⟩ := mem_ready.1 hj
        have hjl : j < l.length := by
          have := (Array.getElem?_eq_some_iff.1 ho').1
          simpa using this
        rw [hall j hjl] at h1
        cases h1
      have hQ : wpList P l.toArray Q [o] a w := by
        unfold wpOp at h2
        simp only [List.getElem?_toArray, noopLast_get, if_pos (show l.length - 1 + 1 = l.length by omega), hlast, Option.map_some] at h2
        have hwant : Region.wanted (noopOf o) (yielded (noopLast l).toArray a.tmps) = true := rfl
        rw [if_pos hwant] at h2
        rcases h2 with h2 | ⟨h2, _⟩
        · have h3 : wpAny P md (noopLast l).toArray (lastQ P l o Q) fuel (listed.setIfInBounds (l.length - 1) true) (a.put (noopOf o).dst (.bool true)) w := h2
          have h4 : (noopOf o).dst = none := hdst
          rw [h4] at h3
          cases fuel with
          | zero => exact h3.2
          | succ f => exact h3.1 (by rw [ready_noop]; exact hrd)
        · exfalso
          simp only [Oper.asks, noopOf, execOp] at h2
          have h5 := h2.1
          have h6 : noRoomEvent ∈ (#[] : Array Event) := h5
          simp at h6
      unfold wpOp
      simp only [List.getElem?_toArray, hlast]
      have hwant : Region.wanted o (yielded l.toArray a.tmps) = true := by simp [Region.wanted, hgd]
      rw [if_pos hwant]
      unfold wpList at hQ
      rw [if_pos hwant] at hQ
      refine hQ.imp (fun h => Oper.wp_mono (fun a' w' h' => ?_) h) id
      cases fuel with
      | zero => exact ⟨hrd, h'⟩
      | succ f => exact ⟨fun _ => h', by rw [hrd]; simp⟩
    · refine wpOp_exits (fun e a w he h => lastQ_other he h) (wpOp_noop hin (wpOp_mono (fun a' w' h' => ?_) h2))
      exact wpAny_last hlast hpos hdst hgd hs1 hc1 hd fuel _ a' w' (inv.set hi (by
        have := (mem_ready.1 hi).2
        obtain ⟨o', ho', _⟩ := this
        have := (Array.getElem?_eq_some_iff.1 ho').1
        simp at this
        omega)) h'

theorem wp_region_last {id : Nat} {Q : Exit → Act → World → Prop} {a : Act} {w : World} {l : List Oper} (o : Oper) (hm : P.follows .mixedOrders = true) (ho : l[l.length - 1]? = some o) (hB : lastB .any l = true)
    (h : wpAny P .any (noopLast l).toArray (lastQ P l o Q) (noopLast l).toArray.size (Array.replicate (noopLast l).toArray.size false) a { w with drawn := w.drawn + 1 }) : (Code.region id l.toArray true).wp P Q a w := by
  have hpos : 0 < l.length := by
    rcases Nat.eq_zero_or_pos l.length with h | h
    · rw [List.eq_nil_of_length_eq_zero h] at ho; simp at ho
    · exact h
  simp only [lastB, Bool.and_eq_true] at hB
  obtain ⟨⟨h1, h2, h2'⟩, h3⟩ := hB
  rw [List.getLast?_eq_getElem?, ho] at h1
  simp only [Bool.and_eq_true, Option.isNone_iff_eq_none] at h1
  have inv0 : HeadInv .any l.toArray (l.length - 1) (Array.replicate l.toArray.size false) :=
    ⟨by simp, fun j oj _ hl => (by rw [getD_replicate_false] at hl; cases hl), fun t _ ht => getD_in (by simpa using ht) (getD_replicate_false _ _)⟩
  refine wp_region_any hm (wpAny_last ho hpos h1.1 h1.2 h2 h2' ?_ _ _ a _ inv0 (by simpa [noopLast_length] using h))
  intro i o' ho' e he
  have hi : i < l.length := by
    have := (Array.getElem?_eq_some_iff.1 ho').1
    simpa using this
  have := List.all_eq_true.1 h3 i (List.mem_range.2 hi)
  simp only [List.getElem?_toArray] at ho'
  rw [ho'] at this
  have h4 := Array.all_eq_true'.1 this e he
  simpa using h4

/-- The others under a condition on the world, loads first (Derived/OrdersHeld.lean), then that one. -/
theorem wp_region_last_held {id : Nat} {Q : Exit → Act → World → Prop} {a : Act} {w : World} {l : List Oper} (S : World → Prop) (o : Oper) (hm : P.follows .mixedOrders = true) (ho : l[l.length - 1]? = some o) (hB : lastB .any l = true)
    (hS : S w.drew) (h : S w.drew → wpAnyH P .any (noopLast l).toArray (lastQ P l o Q) S l.length (Array.replicate l.length false) a w.drew) : (Code.region id l.toArray true).wp P Q a w :=
  wp_region_last o hm ho hB (wpAny_of_held _ _ _ _ (by simpa [noopLast_length] using h hS))
end
end Go.Bs
