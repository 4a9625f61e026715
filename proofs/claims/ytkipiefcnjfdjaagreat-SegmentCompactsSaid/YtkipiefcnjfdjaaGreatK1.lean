/- Needed by segmentCompacts_walk, part 1: texts put together by shake.py; no condition. -/
import Derived.Test.YtkipiefcnjfdjaaGreatF5
import Derived.ProofKit
import Derived.OpenShut
import Derived.Deep.Slices
import Derived.Lib.SmallJoins
import Derived.WalkKit
import Derived.WalkLawsBesides
import Derived.WalkSpells
import Derived.Outline
import Derived.BigQuiet
import Derived.Deep.QuietTactic
import Derived.Maps.AppendAt
import Derived.Deep.AppendLies
import Derived.Laws.IdiomStrings
import Derived.Laws.BytesArg
import Derived.Test.YtkipiefcnjfdjaaGreatRows
import Derived.StillTail
import Derived.RegionTactic
import Derived.OrdersHeld
import Derived.Deep.RegionHeld
import Derived.Deep.RegionLaw
import Derived.Lib.ConvBytes
import Derived.Laws.AppendOwn
import Derived.Laws.BitsAllLaws
import Derived.Lib.SlBytesConst
import Derived.StillTailTactics
import Derived.Maps.OwnOps
import Derived.Maps.Views
import Derived.Sort.QuietThIn
import Derived.Sort.BigQuietIn
import Derived.Sort.QuietTacIn
import Derived.RangeFuncNested
import Derived.RangeFuncBound
import Derived.RangeFuncCalls
import Derived.RangeFuncLeaves
import Derived.Shelf.Abstract
import Derived.Shelf.RegionOpen
import Derived.OwnWalkIn
import Derived.TacticsInMore
import Derived.LoopNIn
import Derived.LoopIn
import Derived.Maps.OwnIn
import Derived.Laws.MakeOwn
import Derived.BigRegion
import Derived.Deep.Cut
import Derived.Deep.RegionHeld3
import Derived.IntWalk
import Derived.ScopeJumps
import Derived.WalkMore
import Derived.Laws.Bits64
import Derived.Laws.ComplexArith
import Derived.Laws.FloatArith
namespace Go.Bs
open Go.RowKit
set_option linter.unusedVariables false

section
variable {S : Nat → Prop} {w : World} {cs : List Value}

theorem batch_mk {x : Batch} {v : Value} (h0 : 0 ≤ x.epoch ∧ x.epoch ≤ 18446744073709551615) (h1 : 0 ≤ x.base ∧ x.base ≤ 18446744073709551615) (h : rEntries.r S w [v] x.entries) : rBatch.r S w [.int .u64 x.epoch, .int .u64 x.base, v] x :=
  ⟨[_], [_, _], rfl, ⟨rfl, u64_wf h0⟩, [_], [_], rfl, ⟨rfl, u64_wf h1⟩, h⟩
end

/-! What is well-formed. -/
end Go.Bs
namespace Go.Bs
open Go.RowKit
set_option linter.unusedVariables false
set_option linter.unusedSimpArgs false
section
variable {w w' : World} {α : Type}

theorem rSl_imp {sz : Nat} {A A' : Rp α} {S : Nat → Prop} {cs : List Value} {xs : List α} (hA : ∀ S cs x, A.r S w cs x → A'.r S w cs x) (h : (rSl sz A).r S w cs xs) : (rSl sz A').r S w cs xs := by
  obtain ⟨a, c, h1, h2, h3, h4⟩ := h
  refine ⟨a, c, h1, h2, h3, h4.imp id fun ⟨b, off, e, hb, hr⟩ => ⟨b, off, e, hb, fun i x hi => ?_⟩⟩
  obtain ⟨cs, h5, h6, h7⟩ := hr i x hi
  exact ⟨cs, h5, h6, hA _ _ _ h7⟩
theorem entryW_entry {S : Nat → Prop} {cs : List Value} {x : Entry} (h : rEntryW.r S w cs x) : rEntry.r S w cs x :=
  let ⟨c, d, e, h1, h2⟩ := h
  ⟨c, d, e, linksW_links h1, h2⟩
theorem entriesW_entries {S : Nat → Prop} {cs : List Value} {x : List Entry} (h : rEntriesW.r S w cs x) : rEntries.r S w cs x := rSl_imp (fun _ _ _ => entryW_entry) (slW_sl h)
theorem entryW_mk {S : Nat → Prop} {x : Entry} {v v' : Value} (h1 : rLinksW.r S w [v] x.links) (h2 : rBytes.r S w [v'] x.data) : rEntryW.r S w [v, v'] x := ⟨[_], [_], rfl, h1, h2⟩

theorem own_at {base : Nat} {e : TypeId} {size : Nat} {v : Value} {n : Nat} {xs : List Value} (h : w.ownsRow base e size v (n + 1) xs) : ∃ g c, v = .slice (some ⟨g, 0, none⟩) (n + 1) c := by
  rcases h.2 with ⟨_, h0⟩ | ⟨g, cap, cur, rfl, _⟩
  · cases h0
  · exact ⟨_, _, rfl⟩
end
end Go.Bs
namespace Go.Proofs.YtkipiefcnjfdjaaGreat
open Go.RowKit Go.Bs
set_option linter.unusedVariables false
set_option linter.unusedSimpArgs false

set_option maxHeartbeats 1600000 in
theorem ref24_all (x y : List Entry) (a a' : Option Addr) (n c n' c' : Nat) (w : World) (hx : rEntries.r (· < w.heap.size) w [.slice a n c] x) (hy : rEntries.r (· < w.heap.size) w [.slice a' n' c'] y) :
    Calls Tryz.prog 87 #[.slice a n c, .slice a' n' c'] w fun r w' => r = .returned (.bool (decide (x = y))) ∧ Below w.heap.size w w' := by
  obtain ⟨rfl, hm, _, _⟩ := sl_len hx
  obtain ⟨rfl, hm', _, _⟩ := sl_len hy
  by_cases hl : x.length = y.length
  · have HX := hid hx; clear hx
    have HY := hid hy; clear hy
    have HL := hid hl
    have e1 : ((x.length : Int) != (y.length : Int)) = false := by simp [hl]
    clear hl
    go_enter Tryz.func87, Tryz.ntmps87
    go_wp2
    go_loopw [5] (fun i wr => ∃ k : Nat, k ≤ x.length ∧ i = .int .i64 k ∧ Hid (decide (x = y) = decide (x.drop k = y.drop k)) ∧ Below w.heap.size w wr) (fun i _ => x.length - (intOf i).toNat)
    case atStart => exact ⟨0, Nat.zero_le _, rfl, hid rfl, Below.refl _ _⟩
    case round =>
      obtain ⟨k, hk, rfl, hf, hb⟩ := hrel
      by_cases hlt : k < x.length
      · have hlt' : k < y.length := by rw [← HL.out]; exact hlt
        obtain ⟨b, o, hA, hbb, a1, c1, a3, c3, hc0, hc1, hr1, hr3⟩ := entry_at HX.out hlt
        obtain ⟨b', o', hA', hbb', a2, c2, a4, c4, hd0, hd1, hr2, hr4⟩ := entry_at HY.out hlt'
        have hst := hid (drop_eq_step x y k hlt hlt')
        subst hA hA'
        have X0 := fun s : Later wr => s.cell ((hb.cell (p := ⟨b, o + k * 2, none⟩) hbb).trans hc0)
        have X1 := fun s : Later wr => s.cell ((hb.cell (p := ⟨b, o + k * 2 + 1, none⟩) hbb).trans hc1)
        have Y0 := fun s : Later wr => s.cell ((hb.cell (p := ⟨b', o' + k * 2, none⟩) hbb').trans hd0)
        have Y1 := fun s : Later wr => s.cell ((hb.cell (p := ⟨b', o' + k * 2 + 1, none⟩) hbb').trans hd1)
        clear hc0 hc1 hd0 hd1
        generalize hlk : x[k] = u at *
        generalize hlm : y[k] = v at *
        clear hlk hlm
        have hs1 := hid (lift hr1 hb)
        have hs2 := hid (lift hr2 hb)
        have hs3 := hid (lift hr3 hb)
        have hs4 := hid (lift hr4 hb)
        clear hr1 hr2 hr3 hr4
        have hO := fun s : Later wr => ref24_same u v a1 a2 a3 a4 _ c1 _ c2 _ c3 _ c4 s.at_ (lift hs1.out s.below) (lift hs3.out s.below) (lift hs2.out s.below) (lift hs4.out s.below)
        have i0 : (0 : Int) ≤ (k : Int) := by omega
        have i1 : (k : Int) < (x.length : Int) := by omega
        have i2 : (k : Int) < (y.length : Int) := by omega
        by_cases huv : u = v
        · rw [decide_eq_true huv] at hO
          have HO := hid hO; clear hO
          have hst' : Hid (decide (x.drop k = y.drop k) = decide (x.drop (k + 1) = y.drop (k + 1))) := hid (by rw [hst.out]; simp [huv])
          clear huv
          go_wp2_with fail
          refine wp_region_later (by kernel_rfl) (by kernel_rfl) ?_
          repeat (go_big_quiet_step (((go_at_call 54; exact later_of (HO.out _)))))
          refine wpQuiet_nil ?_
          rintro W5 ⟨⟨W5', hb5⟩, rfl⟩
          go_wp2
          go_roundw
          case rel => exact ⟨k + 1, by omega, by go_num, hid (by rw [hf.out, hst'.out]), below_then hb5 hb⟩
          case measure => simp [intOf]; omega
        · rw [decide_eq_false huv] at hO
          have HO := hid hO; clear hO
          have hff : Hid (decide (x = y) = false) := hid (by rw [hf.out, hst.out]; simp [huv])
          clear huv
          go_wp2_with fail
          refine wp_region_later (by kernel_rfl) (by kernel_rfl) ?_
          repeat (go_big_quiet_step (((go_at_call 54; exact later_of (HO.out _)))))
          refine wpQuiet_nil ?_
          rintro W5 ⟨⟨W5', hb5⟩, rfl⟩
          go_wp2
          go_ret
          exact ⟨by rw [hff.out]; rfl, below_then hb5 hb⟩
      · obtain rfl : k = x.length := by omega
        have hff : Hid (decide (x = y) = true) := hid (by rw [hf.out, List.drop_length, List.drop_of_length_le (by rw [HL.out]; exact Nat.le_refl _)]; rfl)
        go_wp2
        go_ret
        exact ⟨by rw [hff.out]; rfl, hb⟩
  · have hff : Hid (decide (x = y) = false) := hid (by simp; rintro rfl; exact hl rfl)
    have e1 : ((x.length : Int) != (y.length : Int)) = true := by simp; omega
    clear hl hx hy
    go_enter Tryz.func87, Tryz.ntmps87
    go_wp2
    go_ret
    exact ⟨by rw [hff.out]; rfl, Below.refl _ _⟩

end Go.Proofs.YtkipiefcnjfdjaaGreat
namespace Go.Bs
open Go.RowKit
set_option linter.unusedVariables false

/-- Nothing, in the last operation's place. -/
def noopOf (o : Oper) : Oper := { o with op := .move (.const (.bool true)), guard := none }
def noopLast : List Oper → List Oper
  | [] => []
  | [o] => [noopOf o]
  | o :: p :: l => o :: noopLast (p :: l)
theorem noopLast_length : ∀ l, (noopLast l).length = l.length
  | [] => rfl
  | [_] => rfl
  | _ :: p :: l => by simp [noopLast, noopLast_length (p :: l)]
theorem noopLast_get : ∀ (l : List Oper) (i : Nat), (noopLast l)[i]? = if i + 1 = l.length then (l[i]?).map noopOf else l[i]?
  | [], i => by simp [noopLast]
  | [o], i => by
    cases i with
    | zero => simp [noopLast]
    | succ i => simp [noopLast]
  | o :: p :: l, i => by
    cases i with
    | zero => simp [noopLast]
    | succ i =>
      have := noopLast_get (p :: l) i
      simp only [noopLast, List.getElem?_cons_succ, List.length_cons] at *
      rw [this]
      by_cases h : i + 1 = l.length + 1
      · rw [if_pos h, if_pos (by omega)]
      · rw [if_neg h, if_neg (by omega)]

/-- The last operation waits for each other one, if through others, yields nothing, is not guarded; and all wait for what stands ahead of them alone. -/
def lastB (md : Region.Mode) (l : List Oper) : Bool :=
  (match l.getLast? with | none => false | some o => o.dst.isNone && o.guard.isNone) && (Region.sinkB md l.toArray (l.length - 1) && Region.chainB md l.toArray (l.length - 1)) &&
    (List.range l.length).all fun i => match l[i]? with | none => true | some o => o.after.all fun e => decide (e.on < i)

section
variable {P : Program} {md : Region.Mode}

theorem ready_noop (l : List Oper) (listed : Array Bool) : Region.ready md (noopLast l).toArray listed = Region.ready md l.toArray listed := by
  unfold Region.ready
  simp only [List.size_toArray, noopLast_length]
  refine List.filter_congr fun i _ => ?_
  simp only [List.getElem?_toArray, noopLast_get]
  by_cases h : i + 1 = l.length
  · rw [if_pos h]
    cases l[i]? <;> rfl
  · rw [if_neg h]

theorem yielded_noop (l : List Oper) (t : Array Value) : yielded (noopLast l).toArray t = yielded l.toArray t := by
  funext j
  unfold yielded
  simp only [List.getElem?_toArray, noopLast_get]
  by_cases h : j + 1 = l.length
  · rw [if_pos h]
    cases l[j]? <;> rfl
  · rw [if_neg h]

theorem wpOp_exits {ops : Array Oper} {Q Q' : Exit → Act → World → Prop} {i : Nat} {K : Act → World → Prop} {a : Act} {w : World} (hQ : ∀ e a w, e ≠ .normal → Q' e a w → Q e a w) (h : wpOp P ops Q' i K a w) : wpOp P ops Q i K a w := by
  unfold wpOp at *
  split
  · rename_i ho
    simp only [ho] at h
    exact h
  · rename_i o ho
    simp only [ho] at h
    split
    · rename_i hw
      simp only [hw, if_true] at h
      have hl : LetsOut Q' → LetsOut Q := fun ⟨a, w, h⟩ => ⟨a, w, hQ _ _ _ (by simp) h⟩
      rcases h with h | ⟨h1, h2⟩
      · left
        unfold Oper.wp at *
        generalize (execOp a.eval o).run P w = r at *
        cases r with
        | ok n w' =>
          cases n <;> simp only [Oper.upon] at h ⊢
          case value u => exact h
          case skip => exact h
          case defer d => exact h
          case enter f args =>
            refine Calls.mono h fun e w'' he => ?_
            cases e with
            | returned u => exact he
            | panicked c => exact hQ _ _ _ (by simp) he
            | outgrown => exact hl he
          case row row args => exact h
        | halt x w' =>
          cases x <;> simp only [Oper.upon] at h ⊢
          case panic u => exact hQ _ _ _ (by simp) h
      · exact .inr ⟨h1, hl h2⟩
    · rename_i hw
      simp only [hw] at h
      exact h

theorem wpOp_noop {l : List Oper} {Q : Exit → Act → World → Prop} {i : Nat} {K : Act → World → Prop} {a : Act} {w : World} (hi : i + 1 ≠ l.length) (h : wpOp P (noopLast l).toArray Q i K a w) : wpOp P l.toArray Q i K a w := by
  unfold wpOp at *
  rw [yielded_noop] at h
  simp only [List.getElem?_toArray, noopLast_get, if_neg hi] at h ⊢
  exact h

/-- What is asked behind the others: the last one, by itself. -/
def lastQ (P : Program) (l : List Oper) (o : Oper) (Q : Exit → Act → World → Prop) : Exit → Act → World → Prop
  | .normal, a, w => wpList P l.toArray Q [o] a w
  | e, a, w => Q e a w

theorem lastQ_other {l : List Oper} {o : Oper} {Q : Exit → Act → World → Prop} {e : Exit} {a : Act} {w : World} (he : e ≠ .normal) (h : lastQ P l o Q e a w) : Q e a w := by
  cases e <;> first | exact h | exact absurd rfl he

theorem ready_some {ops : Array Oper} {listed : Array Bool} (hd : ∀ (i : Nat) (o : Oper), ops[i]? = some o → ∀ e ∈ o.after, e.on < i) (hs : listed.size = ops.size) : ∀ (n j : Nat), j < n → j < ops.size → listed.getD j true = false → Region.ready md ops listed ≠ []
  | 0, j, h, _, _ => by omega
  | n + 1, j, h, hj, hl => by
    intro h0
    have hr : j ∉ Region.ready md ops listed := by rw [h0]; simp
    apply hr
    rw [mem_ready]
    have ho : ops[j]? = some ops[j] := Array.getElem?_eq_getElem hj
    refine ⟨hl, ops[j], ho, fun e he hb => ?_⟩
    have hlt := hd j _ ho e he
    cases hg : listed.getD e.on false with
    | true => rfl
    | false => exact absurd h0 (ready_some hd hs n e.on (by omega) (by omega) (getD_in (by omega) hg))

theorem wpAny_last {l : List Oper} {o : Oper} {Q : Exit → Act → World → Prop} (hlast : l[l.length - 1]? = some o) (hpos : 0 < l.length) (hdst : o.dst = none) (hgd : o.guard = none)
    (hs1 : Region.sinkB md l.toArray (l.length - 1) = true) (hc1 : Region.chainB md l.toArray (l.length - 1) = true) (hd : ∀ (i : Nat) (o : Oper), l.toArray[i]? = some o → ∀ e ∈ o.after, e.on < i) :
    ∀ (fuel : Nat) (listed : Array Bool) (a : Act) (w : World), HeadInv md l.toArray (l.length - 1) listed →
      wpAny P md (noopLast l).toArray (lastQ P l o Q) fuel listed a w → wpAny P md l.toArray Q fuel listed a w
  | 0, listed, a, w, inv, h => by
    have hs : listed.size = l.length := by simpa using inv.size
    have hl := inv.tail (l.length - 1) (Nat.le_refl _) (by simp; omega)
    exact absurd (by rw [← ready_noop]; exact h.1) (ready_some (md := md) hd (by simpa using hs) _ _ (Nat.lt_succ_self _) (by simp; omega) hl)
  | fuel + 1, listed, a, w, inv, h => by
    have hs : listed.size = l.length := by simpa using inv.size
    have hl := inv.tail (l.length - 1) (Nat.le_refl _) (by simp; omega)
    have hne := ready_some (md := md) hd (by simpa using hs) _ _ (Nat.lt_succ_self _) (by simp; omega) hl
    refine ⟨fun h0 => absurd h0 hne, fun i hi => ?_⟩
    have h2 := h.2 i (by rw [ready_noop]; exact hi)
    by_cases hin : i + 1 = l.length
    · -- the last one: all others have come up
      obtain rfl : i = l.length - 1 := by omega
      have hr := mem_ready.1 hi
      have hall : ∀ j, j < l.length → (listed.setIfInBounds (l.length - 1) true).getD j true = true := by
        intro j hj
        by_cases hjl : j = l.length - 1
        · subst hjl; simp [hs]
        · rw [getD_set_ne true (by omega)]
          cases hg : listed.getD j true with
          | true => rfl
          | false => exact absurd hi (tail_waits hs1 hc1 (by simp; omega) inv _ j rfl (by omega) hg _ (Nat.le_refl _))
      have hrd : Region.ready md l.toArray (listed.setIfInBounds (l.length - 1) true) = [] := by
        rw [List.eq_nil_iff_forall_not_mem]
        intro j hj
        obtain ⟨h1, o', ho', _⟩ := mem_ready.1 hj
        have hjl : j < l.length := by
          have := (Array.getElem?_eq_some_iff.1 ho').1
          simpa using this
        rw [hall j hjl] at h1
        cases h1
      have hQ : wpList P l.toArray Q [o] a w := by
        unfold wpOp at h2
        simp only [List.getElem?_toArray, noopLast_get, if_pos (show l.length - 1 + 1 = l.length by omega), hlast, Option.map_some] at h2
        have hwant : Region.wanted (noopOf o) (yielded (noopLast l).toArray a.tmps) = true := rfl
        rw [if_pos hwant] at h2
        rcases h2 with h2 | ⟨h2, _⟩
        · have h3 : wpAny P md (noopLast l).toArray (lastQ P l o Q) fuel (listed.setIfInBounds (l.length - 1) true) (a.put (noopOf o).dst (.bool true)) w := h2
          have h4 : (noopOf o).dst = none := hdst
          rw [h4] at h3
          cases fuel with
          | zero => exact h3.2
          | succ f => exact h3.1 (by rw [ready_noop]; exact hrd)
        · exfalso
          simp only [Oper.asks, noopOf, execOp] at h2
          have h5 := h2.1
          have h6 : noRoomEvent ∈ (#[] : Array Event) := h5
          simp at h6
      unfold wpOp
      simp only [List.getElem?_toArray, hlast]
      have hwant : Region.wanted o (yielded l.toArray a.tmps) = true := by simp [Region.wanted, hgd]
      rw [if_pos hwant]
      unfold wpList at hQ
      rw [if_pos hwant] at hQ
      refine hQ.imp (fun h => Oper.wp_mono (fun a' w' h' => ?_) h) id
      cases fuel with
      | zero => exact ⟨hrd, h'⟩
      | succ f => exact ⟨fun _ => h', by rw [hrd]; simp⟩
    · refine wpOp_exits (fun e a w he h => lastQ_other he h) (wpOp_noop hin (wpOp_mono (fun a' w' h' => ?_) h2))
      exact wpAny_last hlast hpos hdst hgd hs1 hc1 hd fuel _ a' w' (inv.set hi (by
        have := (mem_ready.1 hi).2
        obtain ⟨o', ho', _⟩ := this
        have := (Array.getElem?_eq_some_iff.1 ho').1
        simp at this
        omega)) h'

theorem wp_region_last {id : Nat} {Q : Exit → Act → World → Prop} {a : Act} {w : World} {l : List Oper} (o : Oper) (hm : P.follows .mixedOrders = true) (ho : l[l.length - 1]? = some o) (hB : lastB .any l = true)
    (h : wpAny P .any (noopLast l).toArray (lastQ P l o Q) (noopLast l).toArray.size (Array.replicate (noopLast l).toArray.size false) a { w with drawn := w.drawn + 1 }) : (Code.region id l.toArray true).wp P Q a w := by
  have hpos : 0 < l.length := by
    rcases Nat.eq_zero_or_pos l.length with h | h
    · rw [List.eq_nil_of_length_eq_zero h] at ho; simp at ho
    · exact h
  simp only [lastB, Bool.and_eq_true] at hB
  obtain ⟨⟨h1, h2, h2'⟩, h3⟩ := hB
  rw [List.getLast?_eq_getElem?, ho] at h1
  simp only [Bool.and_eq_true, Option.isNone_iff_eq_none] at h1
  have inv0 : HeadInv .any l.toArray (l.length - 1) (Array.replicate l.toArray.size false) :=
    ⟨by simp, fun j oj _ hl => (by rw [getD_replicate_false] at hl; cases hl), fun t _ ht => getD_in (by simpa using ht) (getD_replicate_false _ _)⟩
  refine wp_region_any hm (wpAny_last ho hpos h1.1 h1.2 h2 h2' ?_ _ _ a _ inv0 (by simpa [noopLast_length] using h))
  intro i o' ho' e he
  have hi : i < l.length := by
    have := (Array.getElem?_eq_some_iff.1 ho').1
    simpa using this
  have := List.all_eq_true.1 h3 i (List.mem_range.2 hi)
  simp only [List.getElem?_toArray] at ho'
  rw [ho'] at this
  have h4 := Array.all_eq_true'.1 this e he
  simpa using h4

/-- The others under a condition on the world, loads first (Derived/OrdersHeld.lean), then that one. -/
theorem wp_region_last_held {id : Nat} {Q : Exit → Act → World → Prop} {a : Act} {w : World} {l : List Oper} (S : World → Prop) (o : Oper) (hm : P.follows .mixedOrders = true) (ho : l[l.length - 1]? = some o) (hB : lastB .any l = true)
    (hS : S w.drew) (h : S w.drew → wpAnyH P .any (noopLast l).toArray (lastQ P l o Q) S l.length (Array.replicate l.length false) a w.drew) : (Code.region id l.toArray true).wp P Q a w :=
  wp_region_last o hm ho hB (wpAny_of_held _ _ _ _ (by simpa [noopLast_length] using h hS))
end
end Go.Bs
namespace Go.Proofs.YtkipiefcnjfdjaaGreat
open Go.RowKit Go.Bs
set_option linter.unusedVariables false
set_option linter.unusedSimpArgs false

set_option maxHeartbeats 1600000 in
theorem ref25_same (x y : Batch) (a a' : Option Addr) (n c n' c' : Nat) (w : World) (hx : rEntries.r (· < w.heap.size) w [.slice a n c] x.entries) (hy : rEntries.r (· < w.heap.size) w [.slice a' n' c'] y.entries) :
    Calls Tryz.prog 26 #[.agg #[.int .u64 x.epoch, .int .u64 x.base, .slice a n c], .agg #[.int .u64 y.epoch, .int .u64 y.base, .slice a' n' c']] w fun r w' => r = .returned (.bool (decide (x = y))) ∧ Below w.heap.size w w' := by
  obtain ⟨xe, xb, xl⟩ := x
  obtain ⟨ye, yb, yl⟩ := y
  dsimp only at *
  have HX := hid hx; clear hx
  have HY := hid hy; clear hy
  by_cases h1 : xe = ye
  · by_cases h2 : xb = yb
    · have hff : Hid (decide ((⟨xe, xb, xl⟩ : Batch) = ⟨ye, yb, yl⟩) = decide (xl = yl)) := hid (by simp [h1, h2])
      have d1 : (xe == ye) = true := by simp [h1]
      have d2 : (xb == yb) = true := by simp [h2]
      clear h1 h2
      go_enter Tryz.func26, Tryz.ntmps26
      go_wp2_with fail
      refine (ref24_all xl yl _ _ _ _ _ _ _ (lift HX.out (by (repeat (first | exact Below.refl _ _ | assumption | (refine below_alloc ?_ _) | (refine Below.setCell ?_ (by first | omega | (simp; done) | (simp; omega)) _) | (refine Below.drew ?_) | (refine below_drewN ?_ _) | (refine below_then (by assumption) ?_))))) (lift HY.out (by (repeat (first | exact Below.refl _ _ | assumption | (refine below_alloc ?_ _) | (refine Below.setCell ?_ (by first | omega | (simp; done) | (simp; omega)) _) | (refine Below.drew ?_) | (refine below_drewN ?_ _) | (refine below_then (by assumption) ?_)))))).mono ?_
      rintro e w1 ⟨rfl, hb1⟩
      have hb2 : Below w.heap.size w w1 := by (repeat (first | exact Below.refl _ _ | assumption | (refine below_alloc ?_ _) | (refine Below.setCell ?_ (by first | omega | (simp; done) | (simp; omega)) _) | (refine Below.drew ?_) | (refine below_drewN ?_ _) | (refine below_then (by assumption) ?_)))
      go_wp2
      go_ret
      exact ⟨by rw [hff.out]; rfl, hb2⟩
    · have hff : Hid (decide ((⟨xe, xb, xl⟩ : Batch) = ⟨ye, yb, yl⟩) = false) := hid (by simp [h1, h2])
      have d1 : (xe == ye) = true := by simp [h1]
      have d2 : (xb == yb) = false := by simp [h2]
      clear h1 h2
      go_enter Tryz.func26, Tryz.ntmps26
      go_wp2
      go_ret
      exact ⟨by rw [hff.out]; rfl, by (repeat (first | exact Below.refl _ _ | assumption | (refine below_alloc ?_ _) | (refine Below.setCell ?_ (by first | omega | (simp; done) | (simp; omega)) _) | (refine Below.drew ?_) | (refine below_drewN ?_ _) | (refine below_then (by assumption) ?_)))⟩
  · have hff : Hid (decide ((⟨xe, xb, xl⟩ : Batch) = ⟨ye, yb, yl⟩) = false) := hid (by simp [h1])
    have d1 : (xe == ye) = false := by simp [h1]
    clear h1
    go_enter Tryz.func26, Tryz.ntmps26
    go_wp2
    go_ret
    exact ⟨by rw [hff.out]; rfl, by (repeat (first | exact Below.refl _ _ | assumption | (refine below_alloc ?_ _) | (refine Below.setCell ?_ (by first | omega | (simp; done) | (simp; omega)) _) | (refine Below.drew ?_) | (refine below_drewN ?_ _) | (refine below_then (by assumption) ?_)))⟩

set_option maxHeartbeats 1600000 in
theorem ref34_same (ex ey : Int) (x y : List Batch) (a a' : Option Addr) (n c n' c' : Nat) (w : World) (hx : rBatches.r (· < w.heap.size) w [.slice a n c] x) (hy : rBatches.r (· < w.heap.size) w [.slice a' n' c'] y) :
    Calls Tryz.prog 43 #[.agg #[.int .u64 ex, .slice a n c], .agg #[.int .u64 ey, .slice a' n' c']] w fun r w' => r = .returned (.bool (decide ((⟨ex, x⟩ : Seg) = ⟨ey, y⟩))) ∧ Below w.heap.size w w' := by
  obtain ⟨rfl, hm, _, _⟩ := sl_len hx
  obtain ⟨rfl, hm', _, _⟩ := sl_len hy
  by_cases he : ex = ey
  · have d0 : (ex != ey) = false := by simp [he]
    by_cases hl : x.length = y.length
    · have HX := hid hx; clear hx
      have HY := hid hy; clear hy
      have HL := hid hl
      have e1 : ((x.length : Int) != (y.length : Int)) = false := by simp [hl]
      have h0 : Hid (decide ((⟨ex, x⟩ : Seg) = ⟨ey, y⟩) = decide (x.drop 0 = y.drop 0)) := hid (by simp [he])
      clear hl he
      go_enter Tryz.func43, Tryz.ntmps43
      go_wp2_with fail
      refine wp_world (fun W => Below w.heap.size w W ∧ w.heap.size + 1 < W.heap.size ∧ W.cell? ⟨w.heap.size, 1, none⟩ = some (.slice a x.length c) ∧ W.cell? ⟨w.heap.size + 1, 1, none⟩ = some (.slice a' y.length c')) ⟨by (repeat (first | exact Below.refl _ _ | assumption | (refine below_alloc ?_ _) | (refine Below.setCell ?_ (by first | omega | (simp; done) | (simp; omega)) _) | (refine Below.drew ?_) | (refine below_drewN ?_ _) | (refine below_then (by assumption) ?_))), by simp, by go_simp, by go_simp⟩ ?_
      intro w1 ⟨hb2, hzb, s0, s1⟩
      go_loopw [5] (fun i wr => ∃ k : Nat, k ≤ x.length ∧ i = .int .i64 k ∧ Hid (decide ((⟨ex, x⟩ : Seg) = ⟨ey, y⟩) = decide (x.drop k = y.drop k)) ∧ Below w1.heap.size w1 wr) (fun i _ => x.length - (intOf i).toNat)
      case atStart => exact ⟨0, Nat.zero_le _, rfl, h0, Below.refl _ _⟩
      case round =>
        obtain ⟨k, hk, rfl, hf, hb7⟩ := hrel
        have hb := below_then hb7 hb2
        have t0 : wr.cell? ⟨w.heap.size, 1, none⟩ = some (.slice a x.length c) := (Later.mk wr hb7).cell s0
        have t1 : wr.cell? ⟨w.heap.size + 1, 1, none⟩ = some (.slice a' y.length c') := (Later.mk wr hb7).cell s1
        have hz3 : w.heap.size + 1 < wr.heap.size := by have := hb7.size; omega
        by_cases hlt : k < x.length
        · have hlt' : k < y.length := by rw [← HL.out]; exact hlt
          obtain ⟨b, o, hA, hbb, a1, c1, hc0, hc1, hc2, _, _, hr1⟩ := batch_at HX.out hlt
          obtain ⟨b', o', hA', hbb', a2, c2, hd0, hd1, hd2, _, _, hr2⟩ := batch_at HY.out hlt'
          have hst := hid (drop_eq_step x y k hlt hlt')
          subst hA hA'
          have T0 := fun s : Later wr => s.cell t0
          have T1 := fun s : Later wr => s.cell t1
          have X0 := fun s : Later wr => s.cell ((hb.cell (p := ⟨b, o + k * 3, none⟩) hbb).trans hc0)
          have X1 := fun s : Later wr => s.cell ((hb.cell (p := ⟨b, o + k * 3 + 1, none⟩) hbb).trans hc1)
          have X2 := fun s : Later wr => s.cell ((hb.cell (p := ⟨b, o + k * 3 + 2, none⟩) hbb).trans hc2)
          have Y0 := fun s : Later wr => s.cell ((hb.cell (p := ⟨b', o' + k * 3, none⟩) hbb').trans hd0)
          have Y1 := fun s : Later wr => s.cell ((hb.cell (p := ⟨b', o' + k * 3 + 1, none⟩) hbb').trans hd1)
          have Y2 := fun s : Later wr => s.cell ((hb.cell (p := ⟨b', o' + k * 3 + 2, none⟩) hbb').trans hd2)
          clear hc0 hc1 hc2 hd0 hd1 hd2
          generalize hlk : x[k] = u at *
          generalize hlm : y[k] = v at *
          clear hlk hlm
          have hs1 := hid (lift hr1 hb)
          have hs2 := hid (lift hr2 hb)
          clear hr1 hr2
          have hO := fun s : Later wr => ref25_same u v a1 a2 _ c1 _ c2 s.at_ (lift hs1.out s.below) (lift hs2.out s.below)
          have i0 : (0 : Int) ≤ (k : Int) := by omega
          have i1 : (k : Int) < (x.length : Int) := by omega
          have i2 : (k : Int) < (y.length : Int) := by omega
          by_cases huv : u = v
          · rw [decide_eq_true huv] at hO
            have HO := hid hO; clear hO
            have hst' : Hid (decide (x.drop k = y.drop k) = decide (x.drop (k + 1) = y.drop (k + 1))) := hid (by rw [hst.out]; simp [huv])
            clear huv
            go_wp2_with fail
            refine wp_region_later (by kernel_rfl) (by kernel_rfl) ?_
            repeat (go_big_quiet_step (((go_at_call 26; exact later_of (HO.out _)))))
            refine wpQuiet_nil ?_
            rintro W5 ⟨⟨W5', hb5⟩, rfl⟩
            go_wp2
            go_roundw
            case rel => exact ⟨k + 1, by omega, by go_num, hid (by rw [hf.out, hst'.out]), below_then hb5 hb7⟩
            case measure => simp [intOf]; omega
          · rw [decide_eq_false huv] at hO
            have HO := hid hO; clear hO
            have hff : Hid (decide ((⟨ex, x⟩ : Seg) = ⟨ey, y⟩) = false) := hid (by rw [hf.out, hst.out]; simp [huv])
            clear huv
            go_wp2_with fail
            refine wp_region_later (by kernel_rfl) (by kernel_rfl) ?_
            repeat (go_big_quiet_step (((go_at_call 26; exact later_of (HO.out _)))))
            refine wpQuiet_nil ?_
            rintro W5 ⟨⟨W5', hb5⟩, rfl⟩
            go_wp2
            go_ret
            exact ⟨by rw [hff.out]; rfl, below_then hb5 hb⟩
        · obtain rfl : k = x.length := by omega
          have hff : Hid (decide ((⟨ex, x⟩ : Seg) = ⟨ey, y⟩) = true) := hid (by rw [hf.out, List.drop_length, List.drop_of_length_le (by rw [HL.out]; exact Nat.le_refl _)]; rfl)
          go_wp2
          go_ret
          exact ⟨by rw [hff.out]; rfl, hb⟩
    · have hff : Hid (decide ((⟨ex, x⟩ : Seg) = ⟨ey, y⟩) = false) := hid (by simp; rintro _ rfl; exact hl rfl)
      have e1 : ((x.length : Int) != (y.length : Int)) = true := by simp; omega
      clear hl hx hy he
      go_enter Tryz.func43, Tryz.ntmps43
      go_wp2
      go_ret
      exact ⟨by rw [hff.out]; rfl, by (repeat (first | exact Below.refl _ _ | assumption | (refine below_alloc ?_ _) | (refine Below.setCell ?_ (by first | omega | (simp; done) | (simp; omega)) _) | (refine Below.drew ?_) | (refine below_drewN ?_ _) | (refine below_then (by assumption) ?_)))⟩
  · have hff : Hid (decide ((⟨ex, x⟩ : Seg) = ⟨ey, y⟩) = false) := hid (by simp [he])
    have d0 : (ex != ey) = true := by simp [he]
    clear he hx hy
    go_enter Tryz.func43, Tryz.ntmps43
    go_wp2
    go_ret
    exact ⟨by rw [hff.out]; rfl, by (repeat (first | exact Below.refl _ _ | assumption | (refine below_alloc ?_ _) | (refine Below.setCell ?_ (by first | omega | (simp; done) | (simp; omega)) _) | (refine Below.drew ?_) | (refine below_drewN ?_ _) | (refine below_then (by assumption) ?_)))⟩
end Go.Proofs.YtkipiefcnjfdjaaGreat
namespace Go.Proofs.YtkipiefcnjfdjaaGreat
open Go.RowKit Go.Bs
set_option linter.unusedVariables false
set_option linter.unusedSimpArgs false
theorem infoEntry : (Tryz.prog.info? 75).map (fun i => (i.zero, i.size, i.bytes)) = some (some (.agg #[.slice none 0 0, .slice none 0 0]), 2, 48) := by kernel_rfl
set_option maxHeartbeats 1600000 in
theorem batch_copyW (x : Batch) (a : Option Addr) (n c : Nat) (w : World) (hl : rEntries.r (· < w.heap.size) w [.slice a n c] x.entries) (hlen : x.entries.length ≤ 1000000000000) (hb : ∀ z ∈ x.entries, Mild z) :
    Calls Tryz.prog 27 #[.agg #[.int .u64 x.epoch, .int .u64 x.base, .slice a n c]] w fun r w' => ∃ v, r = .returned (.agg #[.int .u64 x.epoch, .int .u64 x.base, v]) ∧ rEntriesW.r (Fresh w w') w' [v] x.entries ∧ Below w.heap.size w w' := by
  obtain ⟨ep, ba, l⟩ := x
  dsimp only at *
  obtain ⟨rfl, hm, _, _⟩ := sl_len hl
  obtain ⟨i0, hi, hz0, hz1, hz2⟩ := info_parts infoEntry
  have HL := hid hl; clear hl
  have HB := hid hb; clear hb
  go_enter Tryz.func27, Tryz.ntmps27
  go_wp2_with fail
  refine wp_world (fun W => Below w.heap.size w W ∧ W.heap.size = w.heap.size + 2 ∧ Blk W w.heap.size 25 #[.int .u64 ep, .int .u64 ba, .slice a l.length c] ∧ Blk W (w.heap.size + 1) 25 #[.int .u64 0, .int .u64 0, .slice none 0 0]) ⟨by (repeat (first | exact Below.refl _ _ | assumption | (refine below_alloc ?_ _) | (refine Below.setCell ?_ (by first | omega | (simp; done) | (simp; omega)) _) | (refine Below.drew ?_) | (refine below_drewN ?_ _) | (refine below_then (by assumption) ?_))), by simp, (Blk.new w _ _).alloc _, Blk.new1 w _ _ _⟩ ?_
  intro W ⟨hbW, hzW, q0, q1⟩
  have LT0 : w.heap.size < W.heap.size := by omega
  have LT1 : w.heap.size + 1 < W.heap.size := by omega
  have Q0 := hid q0; have Q1 := hid q1; clear q0 q1
  have HW := hid hzW; clear hzW
  go_loopw [3, 9] (fun v i wr => ∃ k : Nat, k ≤ l.length ∧ i = .int .i64 k ∧ OwnEls W.heap.size rEntryW W.heap.size 75 2 wr v (l.take k) ∧ Below W.heap.size W wr) (fun _ i _ => l.length - (intOf i).toNat)
  case atStart => exact ⟨0, Nat.zero_le _, rfl, OwnEls.nil, Below.refl _ _⟩
  case round =>
    obtain ⟨k, hk, rfl, hown, hb⟩ := hrel
    have hbw := below_then hb hbW
    by_cases hlt : k < l.length
    · obtain ⟨b, o, hA, hbb, a1, c1, a2, c2, hc0, hc1, hd1, hd2⟩ := entry_at HL.out hlt
      subst hA
      have X0 := (hbw.cell (p := ⟨b, o + k * 2, none⟩) hbb).trans hc0
      have X1 := (hbw.cell (p := ⟨b, o + k * 2 + 1, none⟩) hbb).trans hc1
      clear hc0 hc1
      have htk := hid (List.take_succ_eq_append_getElem hlt)
      obtain ⟨m1, m2, m3⟩ := HB.out _ (List.getElem_mem hlt)
      have R1 := hid (lift hd1 hbw)
      have R2 := hid (lift hd2 hbw)
      clear hd1 hd2
      generalize l[k] = z at *
      have M3 := hid m3; clear m3
      have htl : (l.take k).length = k := by simp; omega
      generalize hT : l.take k = T at *
      clear hT
      subst htl
      have OW := hid hown; clear hown
      have i1 : (T.length : Int) < (l.length : Int) := by omega
      go_wp2_with fail
      refine (entry_copyW z _ _ _ _ _ _ _ (lift R1.out (by (repeat (first | exact Below.refl _ _ | assumption | (refine below_alloc ?_ _) | (refine Below.setCell ?_ (by first | omega | (simp; done) | (simp; omega)) _) | (refine Below.drew ?_) | (refine below_drewN ?_ _) | (refine below_then (by assumption) ?_))))) (lift R2.out (by (repeat (first | exact Below.refl _ _ | assumption | (refine below_alloc ?_ _) | (refine Below.setCell ?_ (by first | omega | (simp; done) | (simp; omega)) _) | (refine Below.drew ?_) | (refine below_drewN ?_ _) | (refine below_then (by assumption) ?_))))) m1 m2 M3.out).mono ?_
      rintro e w4 ⟨v1, v2, rfl, hr4, hr5, hb4⟩
      have hbw4 : Below wr.heap.size wr w4 := by (repeat (first | exact Below.refl _ _ | assumption | (refine below_alloc ?_ _) | (refine Below.setCell ?_ (by first | omega | (simp; done) | (simp; omega)) _) | (refine Below.drew ?_) | (refine below_drewN ?_ _) | (refine below_then (by assumption) ?_)))
      have hz4 : wr.heap.size + 1 ≤ w4.heap.size := by have := hb4.size; simpa using this
      obtain ⟨a4, c4, hv4, _, _⟩ := sl_form (linksW_links hr4)
      obtain ⟨a5, c5, hv5, _, _⟩ := sl_form hr5
      simp only [List.cons.injEq, and_true] at hv4 hv5
      subst hv4 hv5
      have O4 := OW.out.below hbw4
      have HR4 := hid (rLinksW.mono hr4 (S' := fun b => wr.heap.size + 1 ≤ b ∧ b < w4.heap.size) fun b h => by simpa [Fresh] using h)
      have HR5 := hid (rBytes.mono hr5 (S' := fun b => wr.heap.size + 1 ≤ b ∧ b < w4.heap.size) fun b h => by simpa [Fresh] using h)
      clear hr4 hr5
      obtain ⟨cells0, OA0⟩ := OW.out
      have hlt0 : ∀ g, u3.ownBlock = some g → g < wr.heap.size := fun g e => (OA0.1.lt g e).2
      have O5 := O4.below (show Below w4.heap.size w4 (w4.alloc (.cells #[.slice a4 z.links.length c4, .slice a5 z.data.length c5] 75)) from by (repeat (first | exact Below.refl _ _ | assumption | (refine below_alloc ?_ _) | (refine Below.setCell ?_ (by first | omega | (simp; done) | (simp; omega)) _) | (refine Below.drew ?_) | (refine below_drewN ?_ _) | (refine below_then (by assumption) ?_))))
      obtain ⟨cells, OA⟩ := O5
      have hx : rEntryW.r (fun b => W.heap.size ≤ b ∧ b < ((w4.alloc (.cells #[.slice a4 z.links.length c4, .slice a5 z.data.length c5] 75))).heap.size ∧ u3.ownBlock ≠ some b) (w4.alloc (.cells #[.slice a4 z.links.length c4, .slice a5 z.data.length c5] 75)) [.slice a4 z.links.length c4, .slice a5 z.data.length c5] z := by
        have hbs := hb.size
        refine entryW_mk (rLinksW.mono (rLinksW.keep HR4.out fun b hb => Below.heap_alloc w4 _ b hb.2) fun b hb' => ⟨?_, ?_, fun e => ?_⟩) (rBytes.mono (rBytes.keep HR5.out fun b hb => Below.heap_alloc w4 _ b hb.2) fun b hb' => ⟨?_, ?_, fun e => ?_⟩)
        · omega
        · simp; omega
        · have := hlt0 b e; omega
        · omega
        · simp; omega
        · have := hlt0 b e; omega
      have hb9 : Below W.heap.size W (w4.alloc (.cells #[.slice a4 z.links.length c4, .slice a5 z.data.length c5] 75)) := below_alloc (below_then hbw4 hb) _
      have HX := hid hx; clear hx
      have HS9 := hid hb9.size
      have HA := hid OA; clear OA OA0 O4 hlt0
      have HB9 := hid hb9; clear hb9
      go_wp2_with (at_builtin; go_loud (refine wpList_append_src rfl _ _ _ rfl W.heap.size 75 i0 (.agg #[.slice none 0 0, .slice none 0 0]) 2 48 Tryz.underlying23 hi hz0 hz1 hz2 rfl (by decide) u3 T.length _ rfl HA.out.1 (some ⟨w4.heap.size, 0, none⟩) 1 1 [.slice a4 z.links.length c4, .slice a5 z.data.length c5] rfl (src_new1 w4 75 _ rfl rfl rfl) (by intro u hu; simp at hu; rcases hu with rfl | rfl <;> rfl) (by simp only [maxLen]; omega) (by omega) HS9.out ?_; intro v1 w5 hown1 hgrow1 hat1; have OP := hid (OwnEls.push HA.out rfl HX.out hown1 hgrow1 hat1 hgrow1.size); have B5 := hid (HB9.out.grown hgrow1 HS9.out (fun g e => (HA.out.1.lt g e).1)); clear hown1 hgrow1 hat1))
      go_roundw
      case rel => exact ⟨T.length + 1, by omega, by go_num, by rw [htk.out]; exact OP.out, B5.out⟩
      case measure => simp [intOf]; omega
    · obtain rfl : k = l.length := by omega
      rw [List.take_length] at hown
      have hv := OwnEls.sliceW (Nat.le_refl _) hown
      obtain ⟨av, cv, hv1, _, _⟩ := sl_form (slW_sl hv)
      simp only [List.cons.injEq, and_true] at hv1
      subst hv1
      have HV := hid hv; clear hv hown
      have P0 := Q0.out.below hb LT0
      have P1 := Q1.out.below hb LT1
      have y0 : wr.cell? ⟨w.heap.size, 0, none⟩ = some (.int .u64 ep) := P0.cell 0
      have y1 : wr.cell? ⟨w.heap.size, 1, none⟩ = some (.int .u64 ba) := P0.cell 1
      have y2 : wr.cell? ⟨w.heap.size, 2, none⟩ = some (.slice a l.length c) := P0.cell 2
      have y3 := P0.free 2
      have z0 : wr.cell? ⟨w.heap.size + 1, 0, none⟩ = some (.int .u64 0) := P1.cell 0
      have z1 : wr.cell? ⟨w.heap.size + 1, 1, none⟩ = some (.int .u64 0) := P1.cell 1
      have z2 : wr.cell? ⟨w.heap.size + 1, 2, none⟩ = some (.slice none 0 0) := P1.cell 2
      have f0 := P1.free 0
      have f1 := P1.free 1
      have f2 := P1.free 2
      clear P0 P1
      go_wp2
      refine bodyPost_ret (v := .agg #[.int .u64 ep, .int .u64 ba, .slice av l.length cv]) (by simp [results, Tryz.results27, go_sem, y0, y1, y2, z0, z1, z2]) rfl ⟨_, rfl, ?_, by (repeat (first | exact Below.refl _ _ | assumption | (refine below_alloc ?_ _) | (refine Below.setCell ?_ (by first | omega | (simp; done) | (simp; omega)) _) | (refine Below.drew ?_) | (refine below_drewN ?_ _) | (refine below_then (by assumption) ?_)))⟩
      have hw2 := HW.out
      refine rEntriesW.mono (rEntriesW.keep HV.out fun b hb => ?_) fun b hb => ⟨by omega, by simp; omega⟩
      repeat rw [Below.heap_setCell _ _ _ _ (by dsimp only; omega)]

theorem batch_copy (x : Batch) (a : Option Addr) (n c : Nat) (w : World) (hl : rEntries.r (· < w.heap.size) w [.slice a n c] x.entries) (hlen : x.entries.length ≤ 1000000000000) (hb : ∀ z ∈ x.entries, Mild z) :
    Calls Tryz.prog 27 #[.agg #[.int .u64 x.epoch, .int .u64 x.base, .slice a n c]] w fun r w' => ∃ v, r = .returned (.agg #[.int .u64 x.epoch, .int .u64 x.base, v]) ∧ rEntries.r (Fresh w w') w' [v] x.entries ∧ Below w.heap.size w w' :=
  (batch_copyW x a n c w hl hlen hb).mono fun r w' ⟨v, h1, h2, h3⟩ => ⟨v, h1, entriesW_entries h2, h3⟩
end Go.Proofs.YtkipiefcnjfdjaaGreat
namespace Go.Proofs.YtkipiefcnjfdjaaGreat
open Go.RowKit Go.Bs
set_option linter.unusedVariables false
set_option linter.unusedSimpArgs false
theorem infoBatch : (Tryz.prog.info? 25).map (fun i => (i.zero, i.size, i.bytes)) = some (some (.agg #[.int .u64 0, .int .u64 0, .slice none 0 0]), 3, 40) := by kernel_rfl
end Go.Proofs.YtkipiefcnjfdjaaGreat
namespace Go.Bs
open Go.RowKit
end Go.Bs
namespace Go.Proofs.YtkipiefcnjfdjaaGreat
open Go.RowKit Go.Bs Go.Maps
set_option linter.unusedVariables false
set_option linter.unusedSimpArgs false

theorem PenOk.step {w1 w w' : World} {g most : Nat} {J J' : List UInt8} (h : PenOk w1 g most J w) (k : ∀ a c, PenAt w g g most J a c → PenStep w g g most J' a w') : PenOk w1 g most J' w' := by
  obtain ⟨a, c, h1, h2, h3⟩ := h
  exact PenStep.trans (J := J) h2 h3 (k a c h1)
end Go.Proofs.YtkipiefcnjfdjaaGreat
namespace Go.Proofs.YtkipiefcnjfdjaaGreat
open Go.RowKit Go.Bs Go.Maps
set_option linter.unusedVariables false
set_option linter.unusedSimpArgs false

section
variable {w W W' : World} {B : List UInt8} {a : Option Addr} {s s' : Rs} {out out' : List UInt8} {aO aO' : Option Addr} {cO cO' : Nat}
theorem own_tch {base : Nat} {e : TypeId} {size : Nat} {v : Value} {n : Nat} {xs : List Value} {g : Nat} (h : W.ownsRow base e size v n xs) (hg : g < base) (hb : Tch (· = g) W W') : W'.ownsRow base e size v n xs := by
  refine ⟨h.1, ?_⟩
  rcases h.2 with h0 | ⟨g', cap, cur, h1, h2, h3, h4⟩
  · exact .inl h0
  · exact .inr ⟨g', cap, cur, h1, h2, (hb.block _ (Blk.lt h3) (by omega)).trans h3, h4⟩
theorem XInv.step (h : XInv w W B a s out aO cO) (k : RdStep W (w.heap.size + 1) B a s' W') : XInv w W' B a s' out aO cO :=
  ⟨k.1, rBytes.keep h.dat fun q hq => k.2.block q (by have := h.sz; omega) (by omega), h.fl.tch k.2 (by omega), own_tch h.own (by omega) k.2, h.be.trans (k.below h.be.size (by omega)), Nat.le_trans h.sz k.size⟩
end
end Go.Proofs.YtkipiefcnjfdjaaGreat
namespace Go.Proofs.YtkipiefcnjfdjaaGreat
open Go.RowKit Go.Bs Go.Maps
set_option linter.unusedVariables false
set_option linter.unusedSimpArgs false

section
variable {w W W' : World} {g : Nat} {B : List UInt8} {a : Option Addr} {s s' : Rs}
theorem RdInv.step (h : RdInv w W g B a s) (k : RdStep W g B a s' W') : RdInv w W' g B a s' :=
  ⟨k.1, rBytes.keep h.dat fun q hq => k.2.block q (Nat.lt_of_lt_of_le hq.1 h.tch.size) hq.2, h.tch.trans k.2 fun _ _ h => h, h.lt⟩
end

end Go.Proofs.YtkipiefcnjfdjaaGreat
namespace Go.Proofs.YtkipiefcnjfdjaaGreat
open Go.RowKit Go.Bs
set_option linter.unusedVariables false
set_option linter.unusedSimpArgs false
theorem OwnEls.stay {w w' : World} {α : Type} {lo base : Nat} {A : Rp α} {e : TypeId} {sz : Nat} {v : Value} {xs : List α} (h : OwnEls lo A base e sz w v xs) (hk : ∀ b, min lo base ≤ b → b < w.heap.size → w'.heap[b]? = w.heap[b]?) (hs : w.heap.size ≤ w'.heap.size) : OwnEls lo A base e sz w' v xs := by
  obtain ⟨cells, ho, hlen, hsz, hA⟩ := h
  refine ⟨cells, ⟨ho.1, ?_⟩, hlen, hsz, fun i cs x hi hx => A.mono (A.keep (hA i cs x hi hx) fun b h => hk b (by have := h.1; omega) h.2.1) fun b h => ⟨h.1, Nat.lt_of_lt_of_le h.2.1 hs, h.2.2⟩⟩
  rcases ho.2 with h0 | ⟨g', cap, cur, h1, h2, h3, h4⟩
  · exact .inl h0
  · exact .inr ⟨g', cap, cur, h1, h2, (hk _ (by omega) (Blk.lt h3)).trans h3, h4⟩
end Go.Proofs.YtkipiefcnjfdjaaGreat
namespace Go.Bs
open Go.RowKit
set_option linter.unusedVariables false
theorem sl_cells {α : Type} {sz : Nat} {A : Rp α} {S : Nat → Prop} {w : World} {a : Option Addr} {n c : Nat} {xs : List α} (h : (rSl sz A).r S w [.slice a n c] xs) (hone : ∀ cs x, A.r S w cs x → ∀ u ∈ cs, u.oneCell' = true) :
    ∃ cells : List (List Value), cells.length = xs.length ∧ (∀ c ∈ cells, c.length = sz) ∧ (∀ (i : Nat) cs x, cells[i]? = some cs → xs[i]? = some x → A.r S w cs x) ∧ (∀ w' : World, (∀ q, S q → w'.heap[q]? = w.heap[q]?) → Src w' a xs.length sz cells.flatten) ∧ ∀ u ∈ cells.flatten, u.oneCell' = true := by
  obtain ⟨a', c', e, h1, h2, h3⟩ := h
  simp at e
  obtain ⟨rfl, rfl, rfl⟩ := e
  rcases h3 with rfl | ⟨b, off, rfl, hS, hr⟩
  · exact ⟨[], rfl, by simp, by simp, fun _ _ => ⟨by simp, .inl rfl⟩, by simp⟩
  · have hc : ∀ i : Fin xs.length, ∃ cs : List Value, cs.length = sz ∧ (∀ j v, cs[j]? = some v → w.cell? ⟨b, off + i.1 * sz + j, none⟩ = some v) ∧ A.r S w cs xs[i] := fun i => hr i.1 xs[i] (List.getElem?_eq_getElem i.2)
    obtain ⟨f, hf⟩ := Classical.axiomOfChoice hc
    have hlen : ∀ c ∈ List.ofFn f, c.length = sz := fun c hc => by
      obtain ⟨i, rfl⟩ := List.mem_ofFn.1 hc
      exact (hf i).1
    refine ⟨List.ofFn f, by simp, hlen, fun i cs x hi hx => ?_, fun w' hkp => ⟨?_, .inr ⟨b, off, rfl, fun j u hu => ?_⟩⟩, fun u hu => ?_⟩
    · have hil := (List.getElem?_eq_some_iff.1 hx).1
      rw [List.getElem?_ofFn, dif_pos hil] at hi
      injection hi with hi
      subst hi
      rw [List.getElem?_eq_getElem hil] at hx
      injection hx with hx
      subst hx
      exact (hf ⟨i, hil⟩).2.2
    · rw [flatten_len sz _ hlen]; simp
    · have hj := (List.getElem?_eq_some_iff.1 hu).1
      rw [flatten_len sz _ hlen, List.length_ofFn] at hj
      have hs0 : 0 < sz := by rcases Nat.eq_zero_or_pos sz with h | h; · subst h; simp at hj
                              · exact h
      have hi : j / sz < xs.length := by rw [Nat.div_lt_iff_lt_mul hs0]; exact hj
      have hk : j % sz < (f ⟨j / sz, hi⟩).length := by rw [(hf _).1]; exact Nat.mod_lt _ hs0
      have e2 := flatten_at sz (List.ofFn f) hlen (j / sz) (j % sz) (f ⟨j / sz, hi⟩) _ (by rw [List.getElem?_ofFn, dif_pos hi]) (List.getElem?_eq_getElem hk)
      have e3 : j / sz * sz + j % sz = j := by rw [Nat.mul_comm]; exact Nat.div_add_mod j sz
      rw [e3, hu] at e2
      have e4 := (hf ⟨j / sz, hi⟩).2.1 (j % sz) u (by rw [List.getElem?_eq_getElem hk, ← e2])
      rw [show off + j = off + j / sz * sz + j % sz by omega]
      exact (World.cell?_of_block (a := ⟨b, off + j / sz * sz + j % sz, none⟩) (hkp b hS)).trans e4
    · obtain ⟨c, hc, hu⟩ := List.mem_flatten.1 hu
      obtain ⟨i, rfl⟩ := List.mem_ofFn.1 hc
      exact hone _ _ (hf i).2.2 u hu
theorem src_blk {w : World} {g : Nat} {t : TypeId} {cs : List Value} (h : Blk w g t cs.toArray) {sz : Nat} (hs : cs.length = sz) : Src w (some ⟨g, 0, none⟩) 1 sz cs := by
  refine ⟨by omega, .inr ⟨_, 0, rfl, fun j u hu => ?_⟩⟩
  rw [Nat.zero_add, Blk.cell h]
  simpa using hu
end Go.Bs
namespace Go.Proofs.YtkipiefcnjfdjaaGreat
open Go.RowKit Go.Bs
set_option linter.unusedVariables false
set_option linter.unusedSimpArgs false
theorem chainR_snoc (e : Int) (b : Batch) : ∀ (l : List Batch) (p : Option Batch), chainR e p (l ++ [b]) = (chainR e p l && (batchR b && mayR e (l.getLast?.or p) b))
  | [], p => by simp [chainR]
  | x :: l, p => by
    simp only [List.cons_append, chainR]
    rw [chainR_snoc e b l (some x)]
    have : (x :: l).getLast?.or p = l.getLast?.or (some x) := by
      rw [List.getLast?_cons]
      cases l.getLast? <;> rfl
    rw [this]
    cases batchR x <;> cases mayR e p x <;> simp
end Go.Proofs.YtkipiefcnjfdjaaGreat
namespace Go.Proofs.YtkipiefcnjfdjaaGreat
open Go.RowKit Go.Bs
set_option linter.unusedVariables false
set_option linter.unusedSimpArgs false

def joinB (x b : Batch) : Batch := ⟨x.epoch, x.base, x.entries ++ b.entries⟩
/-- May two batches be joined, as the law asks. -/
def jn (x b : Batch) : Bool := decide (x.epoch = b.epoch ∧ x.base + x.entries.length = b.base ∧ x.entries.length + b.entries.length ≤ 16 ∧ total x.entries + total b.entries ≤ 1048576)
/-- What joining two batches gives: 3, 13, 2, 0. -/
def joinC2 (x b : Batch) : Int := if batchR x = false ∨ batchR b = false then 3 else if ¬ x.base + x.entries.length = b.base ∨ ¬ x.epoch = b.epoch then 13 else if batchR (joinB x b) = true then 0 else 2
theorem total_app (xs ys : List Entry) : total (xs ++ ys) = total xs + total ys := by unfold total; rw [List.map_append, List.sum_append]
theorem entriesR_app : ∀ (xs ys : List Entry) (p : Int), entriesR p (xs ++ ys) = (entriesR p xs && entriesR (p + xs.length) ys)
  | [], ys, p => by simp [entriesR]
  | x :: xs, ys, p => by
    simp only [List.cons_append, entriesR, List.length_cons]
    rw [entriesR_app xs ys (p + 1), Bool.and_assoc, show p + 1 + (xs.length : Int) = p + ((xs.length + 1 : Nat) : Int) by omega]
theorem join_right {x b : Batch} (hx : batchR x = true) (hb : batchR b = true) (h1 : x.base + x.entries.length = b.base) : batchR (joinB x b) = decide (x.entries.length + b.entries.length ≤ 16 ∧ total x.entries + total b.entries ≤ 1048576) := by
  have hx' := batchR_facts hx
  have hb' := batchR_facts hb
  have ex : entriesR x.base x.entries = true := by simp only [batchR, Bool.and_eq_true] at hx; exact hx.2.2.2
  have eb : entriesR b.base b.entries = true := by simp only [batchR, Bool.and_eq_true] at hb; exact hb.2.2.2
  have hxb : x.base < 4611686018427387904 := by omega
  have e1 : epR x.epoch = true := by simp only [epR, decide_eq_true_eq]; omega
  simp only [batchR, joinB, e1, Bool.true_and, fitsR, total_app, entriesR_app, ex, h1, eb, Bool.and_true, List.length_append]
  rw [Bool.eq_iff_iff]
  simp only [Bool.and_eq_true, decide_eq_true_eq]
  constructor
  · rintro ⟨h, h2⟩; omega
  · rintro ⟨h, h2⟩
    omega
theorem joinC2_zero {x b : Batch} (hx : batchR x = true) (hb : batchR b = true) : (joinC2 x b = 0) ↔ jn x b = true := by
  unfold joinC2
  rw [if_neg (by simp [hx, hb])]
  simp only [jn, decide_eq_true_eq]
  by_cases h1 : x.base + x.entries.length = b.base
  · by_cases h2 : x.epoch = b.epoch
    · rw [if_neg (by simp [h1, h2]), join_right hx hb h1]
      by_cases h3 : x.entries.length + b.entries.length ≤ 16 ∧ total x.entries + total b.entries ≤ 1048576
      · simp [h1, h2, h3]
      · rw [if_neg (by simpa using h3)]
        simp only [h1, h2, true_and]
        exact ⟨fun h => by simp at h, fun h => absurd h h3⟩
    · rw [if_pos (.inr h2)]
      simp [h2]
  · rw [if_pos (.inl h1)]
    simp [h1]
theorem joinC2_right {x b : Batch} (h : joinC2 x b = 0) : batchR (joinB x b) = true := by
  unfold joinC2 at h
  split at h
  · cases h
  · split at h
    · cases h
    · split at h
      · assumption
      · cases h

def compS (M : List Batch) (b : Batch) : List Batch := match M.getLast? with
  | none => M ++ [b]
  | some x => if joinC2 x b = 0 then M.dropLast ++ [joinB x b] else M ++ [b]
def compL (l : List Batch) : List Batch := l.foldl compS []
theorem compS_nil (b : Batch) : compS [] b = [b] := rfl
theorem compS_snoc (M : List Batch) (x b : Batch) : compS (M ++ [x]) b = if joinC2 x b = 0 then M ++ [joinB x b] else M ++ [x] ++ [b] := by
  simp only [compS, List.getLast?_concat, List.dropLast_concat]
theorem compL_step (l : List Batch) (k : Nat) (h : k < l.length) : compL (l.take (k + 1)) = compS (compL (l.take k)) l[k] := by
  unfold compL
  rw [List.take_succ_eq_append_getElem h, List.foldl_append]
  rfl
theorem snoc_cases (M : List Batch) : M = [] ∨ ∃ L x, M = L ++ [x] := by
  rcases List.eq_nil_or_concat M with h | ⟨L, x, h⟩
  · exact .inl h
  · exact .inr ⟨L, x, by simpa using h⟩
theorem compS_len (M : List Batch) (b : Batch) : (compS M b).length ≤ M.length + 1 ∧ M.length ≤ (compS M b).length ∧ 1 ≤ (compS M b).length := by
  rcases snoc_cases M with rfl | ⟨L, x, rfl⟩
  · simp [compS_nil]
  · rw [compS_snoc]; split <;> simp
theorem foldC_len : ∀ (l M : List Batch), (l.foldl compS M).length ≤ M.length + l.length
  | [], M => by simp
  | b :: l, M => by
    have h1 := foldC_len l (compS M b)
    have h2 := (compS_len M b).1
    simp only [List.foldl_cons, List.length_cons]
    omega
theorem compL_len (l : List Batch) : (compL l).length ≤ l.length := by have := foldC_len l []; simpa [compL] using this

/-! The entries with their positions and epochs. -/
def posL (e : Int) : Int → List Entry → List (Int × Int × Entry)
  | _, [] => []
  | p, x :: l => (p, e, x) :: posL e (p + 1) l
def flatB (b : Batch) : List (Int × Int × Entry) := posL b.epoch b.base b.entries
def flatL (l : List Batch) : List (Int × Int × Entry) := l.flatMap flatB
theorem posL_app (e : Int) : ∀ (xs ys : List Entry) (p : Int), posL e p (xs ++ ys) = posL e p xs ++ posL e (p + xs.length) ys
  | [], ys, p => by simp [posL]
  | x :: xs, ys, p => by
    simp only [List.cons_append, posL, List.length_cons]
    rw [posL_app e xs ys (p + 1), show p + 1 + (xs.length : Int) = p + ((xs.length + 1 : Nat) : Int) by omega]
theorem posL_get (e : Int) : ∀ (xs : List Entry) (p : Int) (k : Nat), (posL e p xs)[k]? = xs[k]?.map fun x => (p + k, e, x)
  | [], p, k => by simp [posL]
  | x :: xs, p, 0 => by simp [posL]
  | x :: xs, p, k + 1 => by
    simp only [posL, List.getElem?_cons_succ]
    rw [posL_get e xs (p + 1) k, show p + 1 + (k : Int) = p + ((k + 1 : Nat) : Int) by omega]
theorem flat_join {x b : Batch} (h1 : x.base + x.entries.length = b.base) (h2 : x.epoch = b.epoch) : flatB (joinB x b) = flatB x ++ flatB b := by
  unfold flatB joinB
  dsimp only
  rw [posL_app, h1, h2]
theorem joinC2_parts {x b : Batch} (h : joinC2 x b = 0) : x.base + x.entries.length = b.base ∧ x.epoch = b.epoch := by
  unfold joinC2 at h
  split at h
  · cases h
  · split at h
    · cases h
    · rename_i h1; exact ⟨Classical.not_not.1 fun h2 => h1 (.inl h2), Classical.not_not.1 fun h2 => h1 (.inr h2)⟩
theorem compS_flat (M : List Batch) (b : Batch) : flatL (compS M b) = flatL M ++ flatB b := by
  rcases snoc_cases M with rfl | ⟨L, x, rfl⟩
  · simp [compS_nil, flatL]
  · rw [compS_snoc]
    split
    · rename_i h
      obtain ⟨h1, h2⟩ := joinC2_parts h
      simp only [flatL, List.flatMap_append, List.flatMap_cons, List.flatMap_nil, List.append_nil, flat_join h1 h2, List.append_assoc]
    · simp only [flatL, List.flatMap_append, List.flatMap_cons, List.flatMap_nil, List.append_nil]
theorem foldC_flat : ∀ (l M : List Batch), flatL (l.foldl compS M) = flatL M ++ flatL l
  | [], M => by simp [flatL]
  | b :: l, M => by
    rw [List.foldl_cons, foldC_flat l (compS M b), compS_flat, List.append_assoc]
    rfl
theorem compL_flat (l : List Batch) : flatL (compL l) = flatL l := by have := foldC_flat l []; simpa [compL, flatL] using this
theorem posL_len (e : Int) : ∀ (xs : List Entry) (p : Int), (posL e p xs).length = xs.length
  | [], _ => rfl
  | x :: xs, p => by simp [posL, posL_len e xs (p + 1)]
theorem flatL_len (l : List Batch) : (flatL l).length = nEntries l := by
  unfold flatL nEntries
  rw [List.length_flatMap]
  congr 1
  exact List.map_congr_left fun b _ => posL_len _ _ _
theorem flat_mem {l : List Batch} {i k : Nat} (hi : i < l.length) (hk : k < l[i].entries.length) : (l[i].base + (k : Int), l[i].epoch, l[i].entries[k]) ∈ flatL l := by
  refine List.mem_flatMap.2 ⟨l[i], List.getElem_mem hi, ?_⟩
  refine List.mem_of_getElem? (i := k) ?_
  rw [flatB, posL_get, List.getElem?_eq_getElem hk]
  rfl
theorem mem_flat {l : List Batch} {t : Int × Int × Entry} (h : t ∈ flatL l) : ∃ (i k : Nat) (hi : i < l.length) (hk : k < (l[i]'hi).entries.length), t = ((l[i]'hi).base + (k : Int), (l[i]'hi).epoch, (l[i]'hi).entries[k]'hk) := by
  obtain ⟨b, hb, ht⟩ := List.mem_flatMap.1 h
  obtain ⟨i, hi, rfl⟩ := List.getElem_of_mem hb
  obtain ⟨k, hk, rfl⟩ := List.getElem_of_mem ht
  have hk' : k < l[i].entries.length := by simpa [flatB, posL_len] using hk
  refine ⟨i, k, hi, hk', ?_⟩
  have := posL_get l[i].epoch l[i].entries l[i].base k
  rw [List.getElem?_eq_getElem hk', List.getElem?_eq_getElem (by simpa [flatB] using hk)] at this
  exact Option.some.inj this
theorem posL_bounds (e : Int) : ∀ (xs : List Entry) (p : Int), (posL e p xs).Pairwise (fun s t => s.1 < t.1) ∧ ∀ t ∈ posL e p xs, p ≤ t.1 ∧ t.1 < p + xs.length
  | [], p => by simp [posL]
  | x :: xs, p => by
    obtain ⟨h1, h2⟩ := posL_bounds e xs (p + 1)
    simp only [posL, List.pairwise_cons, List.mem_cons, List.length_cons]
    refine ⟨⟨fun t ht => by have := (h2 t ht).1; omega, h1⟩, ?_⟩
    rintro t (rfl | ht)
    · dsimp only; omega
    · have := h2 t ht; omega
theorem flat_sorted {e : Int} : ∀ (l : List Batch) (p : Option Batch), chainR e p l = true → (flatL l).Pairwise (fun s t => s.1 < t.1) ∧ ∀ t ∈ flatL l, ∀ x, p = some x → x.base + x.entries.length ≤ t.1
  | [], p, _ => by simp [flatL]
  | b :: l, p, h => by
    simp only [chainR, Bool.and_eq_true] at h
    obtain ⟨h1, h2⟩ := flat_sorted l (some b) h.2.2
    obtain ⟨h3, h4⟩ := posL_bounds b.epoch b.entries b.base
    have hf : flatL (b :: l) = flatB b ++ flatL l := rfl
    rw [hf]
    refine ⟨List.pairwise_append.2 ⟨h3, h1, fun s hs t ht => ?_⟩, ?_⟩
    · have := (h4 s hs).2
      have := h2 t ht b rfl
      omega
    · intro t ht x hx
      subst hx
      have hm := h.2.1
      simp only [mayR, Bool.and_eq_true, decide_eq_true_eq] at hm
      rcases List.mem_append.1 ht with ht | ht
      · have := (h4 t ht).1; omega
      · have := h2 t ht b rfl; omega
theorem flat_uniq {e : Int} {l : List Batch} (h : chainR e none l = true) {s t : Int × Int × Entry} (hs : s ∈ flatL l) (ht : t ∈ flatL l) (he : s.1 = t.1) : s = t := by
  have hp := (flat_sorted l none h).1
  obtain ⟨i, hi, rfl⟩ := List.getElem_of_mem hs
  obtain ⟨j, hj, rfl⟩ := List.getElem_of_mem ht
  rw [List.pairwise_iff_getElem] at hp
  rcases Nat.lt_trichotomy i j with h1 | rfl | h1
  · have := hp i j hi hj h1; omega
  · rfl
  · have := hp j i hj hi h1; omega

/-! No two neighbours may be joined. -/
def noJ (M : List Batch) : Prop := ∀ i, (h : i + 1 < M.length) → jn (M[i]'(by omega)) (M[i + 1]'h) = false
theorem noJ_snoc {M : List Batch} {b : Batch} (h : noJ M) (h2 : ∀ x, M.getLast? = some x → jn x b = false) : noJ (M ++ [b]) := by
  intro i hi
  simp only [List.length_append, List.length_cons, List.length_nil] at hi
  by_cases h3 : i + 1 < M.length
  · rw [List.getElem_append_left (by omega), List.getElem_append_left h3]
    exact h i h3
  · have h4 : i + 1 = M.length := by omega
    rw [List.getElem_append_left (by omega), List.getElem_append_right (by omega)]
    simp only [h4, Nat.sub_self, List.getElem_cons_zero]
    refine h2 _ ?_
    rw [List.getLast?_eq_getElem?, List.getElem?_eq_getElem (by omega)]
    congr 2
    omega
theorem noJ_init {M : List Batch} {b : Batch} (h : noJ (M ++ [b])) : noJ M ∧ ∀ x, M.getLast? = some x → jn x b = false := by
  refine ⟨fun i hi => ?_, fun x hx => ?_⟩
  · have := h i (by simp; omega)
    rwa [List.getElem_append_left (by omega), List.getElem_append_left hi] at this
  · rw [List.getLast?_eq_getElem?] at hx
    obtain ⟨hl, hx⟩ := List.getElem?_eq_some_iff.1 hx
    have := h (M.length - 1) (by simp; omega)
    rw [List.getElem_append_left (by omega), List.getElem_append_right (by omega)] at this
    have e : M.length - 1 + 1 - M.length = 0 := by omega
    simp only [e, List.getElem_cons_zero, hx] at this
    exact this
theorem jn_mono {p x b : Batch} (h : jn p x = false) : jn p (joinB x b) = false := by
  simp only [jn, decide_eq_false_iff_not, joinB, List.length_append, total_app] at *
  intro h2
  exact h ⟨h2.1, h2.2.1, by omega, by omega⟩
def relL : Option Batch → Option Batch → Prop
  | none, none => True
  | some x, some y => x.epoch = y.epoch ∧ x.base + x.entries.length = y.base + y.entries.length
  | _, _ => False
structure CInv (ep : Int) (p : Option Batch) (M : List Batch) : Prop where
  chain : chainR ep none M = true
  last : relL M.getLast? p
  no : noJ M
theorem CInv.step {ep : Int} {p : Option Batch} {M : List Batch} {b : Batch} (h : CInv ep p M) (hb : batchR b = true) (hm : mayR ep p b = true) : CInv ep (some b) (compS M b) := by
  have hm' := hm
  simp only [mayR, Bool.and_eq_true, decide_eq_true_eq] at hm
  rcases snoc_cases M with rfl | ⟨L, x, rfl⟩
  · rw [compS_nil]
    refine ⟨?_, ⟨rfl, rfl⟩, fun i hi => by simp at hi⟩
    simp only [chainR, hb, mayR, hm.1, Bool.true_and, decide_true]
  · have hl := h.last
    rw [List.getLast?_concat] at hl
    cases p with
    | none => exact hl.elim
    | some y =>
      obtain ⟨l1, l2⟩ := hl
      have hc := h.chain
      rw [chainR_snoc] at hc
      simp only [Bool.and_eq_true] at hc
      obtain ⟨hc1, hxR, hxm⟩ := hc
      obtain ⟨n1, n2⟩ := noJ_init h.no
      rw [compS_snoc]
      split
      · rename_i h0
        obtain ⟨q1, q2⟩ := joinC2_parts h0
        refine ⟨?_, ?_, noJ_snoc n1 fun z hz => jn_mono (n2 z hz)⟩
        · rw [chainR_snoc, hc1, joinC2_right h0]
          exact hxm
        · rw [List.getLast?_concat]
          refine ⟨q2, ?_⟩
          show x.base + ((x.entries ++ b.entries).length : Int) = _
          rw [List.length_append]
          omega
      · rename_i h0
        refine ⟨?_, ?_, noJ_snoc h.no fun z hz => ?_⟩
        · rw [chainR_snoc, h.chain, hb, List.getLast?_concat]
          simp only [Option.some_or, mayR, Bool.true_and, Bool.and_eq_true, decide_eq_true_eq]
          simp only [Bool.and_eq_true, decide_eq_true_eq] at hm
          exact ⟨hm.1, by omega, by omega⟩
        · rw [List.getLast?_concat]; exact ⟨rfl, rfl⟩
        · rw [List.getLast?_concat, Option.some.injEq] at hz
          subst hz
          rw [← Bool.not_eq_true]
          exact fun h1 => h0 ((joinC2_zero hxR hb).2 h1)
theorem CInv.fold {ep : Int} : ∀ (l : List Batch) (p : Option Batch) (M : List Batch), CInv ep p M → chainR ep p l = true → chainR ep none (l.foldl compS M) = true ∧ noJ (l.foldl compS M)
  | [], _, _, h, _ => ⟨h.chain, h.no⟩
  | b :: l, p, M, h, hc => by
    simp only [chainR, Bool.and_eq_true] at hc
    exact CInv.fold l (some b) (compS M b) (h.step hc.1 hc.2.1) hc.2.2
theorem compL_right {ep : Int} {l : List Batch} (h : segR ⟨ep, l⟩ = true) : segR ⟨ep, compL l⟩ = true ∧ noJ (compL l) := by
  simp only [segR, Bool.and_eq_true, decide_eq_true_eq] at h ⊢
  have h1 := CInv.fold l none [] ⟨rfl, trivial, fun i hi => by simp at hi⟩ h.2.2
  have h2 := compL_len l
  exact ⟨⟨h.1, Nat.le_trans h2 h.2.1, h1.1⟩, h1.2⟩
theorem foldC_same : ∀ (l M : List Batch), noJ (M ++ l) → (∀ b ∈ M ++ l, batchR b = true) → l.foldl compS M = M ++ l
  | [], M, _, _ => by simp
  | b :: l, M, h, hR => by
    have h1 : noJ (M ++ [b]) := by
      intro i hi
      have e : M ++ b :: l = (M ++ [b]) ++ l := by simp
      have h' : noJ ((M ++ [b]) ++ l) := e ▸ h
      have hi' := hi
      simp only [List.length_append, List.length_cons, List.length_nil] at hi'
      have := h' i (by simp; omega)
      rwa [List.getElem_append_left (bs := l) (show i < (M ++ [b]).length by omega), List.getElem_append_left (bs := l) hi] at this
    have h2 : compS M b = M ++ [b] := by
      rcases snoc_cases M with rfl | ⟨L, x, rfl⟩
      · rfl
      · rw [compS_snoc, if_neg]
        intro h0
        have := (noJ_init h1).2 x (by rw [List.getLast?_concat])
        rw [(joinC2_zero (hR x (by simp)) (hR b (by simp))).1 h0] at this
        cases this
    rw [List.foldl_cons, h2]
    have e : M ++ b :: l = (M ++ [b]) ++ l := by simp
    rw [e] at h hR ⊢
    exact foldC_same l (M ++ [b]) h hR
theorem compL_twice {ep : Int} {l : List Batch} (h : segR ⟨ep, l⟩ = true) : compL (compL l) = compL l := by
  obtain ⟨h1, h2⟩ := compL_right h
  have := foldC_same (compL l) [] (by simpa using h2) (fun b hb => (segR_facts h1).2.2 b (by simpa using hb))
  simpa [compL] using this
end Go.Proofs.YtkipiefcnjfdjaaGreat
namespace Go.Proofs.YtkipiefcnjfdjaaGreat
open Go.RowKit Go.Bs
set_option linter.unusedVariables false
set_option linter.unusedSimpArgs false

set_option maxHeartbeats 1600000 in
theorem batch_copyO (x : Batch) (a : Option Addr) (n c : Nat) (w : World) (hl : rEntries.r (· < w.heap.size) w [.slice a n c] x.entries) (hlen : x.entries.length ≤ 1000000000000) (hb : ∀ z ∈ x.entries, Mild z) :
    Calls Tryz.prog 27 #[.agg #[.int .u64 x.epoch, .int .u64 x.base, .slice a n c]] w fun r w' => ∃ v, r = .returned (.agg #[.int .u64 x.epoch, .int .u64 x.base, v]) ∧ OwnEls w.heap.size rEntryW w.heap.size 75 2 w' v x.entries ∧ Below w.heap.size w w' := by
  obtain ⟨ep, ba, l⟩ := x
  dsimp only at *
  obtain ⟨rfl, hm, _, _⟩ := sl_len hl
  obtain ⟨i0, hi, hz0, hz1, hz2⟩ := info_parts infoEntry
  have HL := hid hl; clear hl
  have HB := hid hb; clear hb
  go_enter Tryz.func27, Tryz.ntmps27
  go_wp2_with fail
  refine wp_world (fun W => Below w.heap.size w W ∧ W.heap.size = w.heap.size + 2 ∧ Blk W w.heap.size 25 #[.int .u64 ep, .int .u64 ba, .slice a l.length c] ∧ Blk W (w.heap.size + 1) 25 #[.int .u64 0, .int .u64 0, .slice none 0 0]) ⟨by (repeat (first | exact Below.refl _ _ | assumption | (refine below_alloc ?_ _) | (refine Below.setCell ?_ (by first | omega | (simp; done) | (simp; omega)) _) | (refine Below.drew ?_) | (refine below_drewN ?_ _) | (refine below_then (by assumption) ?_))), by simp, (Blk.new w _ _).alloc _, Blk.new1 w _ _ _⟩ ?_
  intro W ⟨hbW, hzW, q0, q1⟩
  have LT0 : w.heap.size < W.heap.size := by omega
  have LT1 : w.heap.size + 1 < W.heap.size := by omega
  have Q0 := hid q0; have Q1 := hid q1; clear q0 q1
  have HW := hid hzW; clear hzW
  go_loopw [3, 9] (fun v i wr => ∃ k : Nat, k ≤ l.length ∧ i = .int .i64 k ∧ OwnEls W.heap.size rEntryW W.heap.size 75 2 wr v (l.take k) ∧ Below W.heap.size W wr) (fun _ i _ => l.length - (intOf i).toNat)
  case atStart => exact ⟨0, Nat.zero_le _, rfl, OwnEls.nil, Below.refl _ _⟩
  case round =>
    obtain ⟨k, hk, rfl, hown, hb⟩ := hrel
    have hbw := below_then hb hbW
    by_cases hlt : k < l.length
    · obtain ⟨b, o, hA, hbb, a1, c1, a2, c2, hc0, hc1, hd1, hd2⟩ := entry_at HL.out hlt
      subst hA
      have X0 := (hbw.cell (p := ⟨b, o + k * 2, none⟩) hbb).trans hc0
      have X1 := (hbw.cell (p := ⟨b, o + k * 2 + 1, none⟩) hbb).trans hc1
      clear hc0 hc1
      have htk := hid (List.take_succ_eq_append_getElem hlt)
      obtain ⟨m1, m2, m3⟩ := HB.out _ (List.getElem_mem hlt)
      have R1 := hid (lift hd1 hbw)
      have R2 := hid (lift hd2 hbw)
      clear hd1 hd2
      generalize l[k] = z at *
      have M3 := hid m3; clear m3
      have htl : (l.take k).length = k := by simp; omega
      generalize hT : l.take k = T at *
      clear hT
      subst htl
      have OW := hid hown; clear hown
      have i1 : (T.length : Int) < (l.length : Int) := by omega
      go_wp2_with fail
      refine (entry_copyW z _ _ _ _ _ _ _ (lift R1.out (by (repeat (first | exact Below.refl _ _ | assumption | (refine below_alloc ?_ _) | (refine Below.setCell ?_ (by first | omega | (simp; done) | (simp; omega)) _) | (refine Below.drew ?_) | (refine below_drewN ?_ _) | (refine below_then (by assumption) ?_))))) (lift R2.out (by (repeat (first | exact Below.refl _ _ | assumption | (refine below_alloc ?_ _) | (refine Below.setCell ?_ (by first | omega | (simp; done) | (simp; omega)) _) | (refine Below.drew ?_) | (refine below_drewN ?_ _) | (refine below_then (by assumption) ?_))))) m1 m2 M3.out).mono ?_
      rintro e w4 ⟨v1, v2, rfl, hr4, hr5, hb4⟩
      have hbw4 : Below wr.heap.size wr w4 := by (repeat (first | exact Below.refl _ _ | assumption | (refine below_alloc ?_ _) | (refine Below.setCell ?_ (by first | omega | (simp; done) | (simp; omega)) _) | (refine Below.drew ?_) | (refine below_drewN ?_ _) | (refine below_then (by assumption) ?_)))
      have hz4 : wr.heap.size + 1 ≤ w4.heap.size := by have := hb4.size; simpa using this
      obtain ⟨a4, c4, hv4, _, _⟩ := sl_form (linksW_links hr4)
      obtain ⟨a5, c5, hv5, _, _⟩ := sl_form hr5
      simp only [List.cons.injEq, and_true] at hv4 hv5
      subst hv4 hv5
      have O4 := OW.out.below hbw4
      have HR4 := hid (rLinksW.mono hr4 (S' := fun b => wr.heap.size + 1 ≤ b ∧ b < w4.heap.size) fun b h => by simpa [Fresh] using h)
      have HR5 := hid (rBytes.mono hr5 (S' := fun b => wr.heap.size + 1 ≤ b ∧ b < w4.heap.size) fun b h => by simpa [Fresh] using h)
      clear hr4 hr5
      obtain ⟨cells0, OA0⟩ := OW.out
      have hlt0 : ∀ g, u3.ownBlock = some g → g < wr.heap.size := fun g e => (OA0.1.lt g e).2
      have O5 := O4.below (show Below w4.heap.size w4 (w4.alloc (.cells #[.slice a4 z.links.length c4, .slice a5 z.data.length c5] 75)) from by (repeat (first | exact Below.refl _ _ | assumption | (refine below_alloc ?_ _) | (refine Below.setCell ?_ (by first | omega | (simp; done) | (simp; omega)) _) | (refine Below.drew ?_) | (refine below_drewN ?_ _) | (refine below_then (by assumption) ?_))))
      obtain ⟨cells, OA⟩ := O5
      have hx : rEntryW.r (fun b => W.heap.size ≤ b ∧ b < ((w4.alloc (.cells #[.slice a4 z.links.length c4, .slice a5 z.data.length c5] 75))).heap.size ∧ u3.ownBlock ≠ some b) (w4.alloc (.cells #[.slice a4 z.links.length c4, .slice a5 z.data.length c5] 75)) [.slice a4 z.links.length c4, .slice a5 z.data.length c5] z := by
        have hbs := hb.size
        refine entryW_mk (rLinksW.mono (rLinksW.keep HR4.out fun b hb => Below.heap_alloc w4 _ b hb.2) fun b hb' => ⟨?_, ?_, fun e => ?_⟩) (rBytes.mono (rBytes.keep HR5.out fun b hb => Below.heap_alloc w4 _ b hb.2) fun b hb' => ⟨?_, ?_, fun e => ?_⟩)
        · omega
        · simp; omega
        · have := hlt0 b e; omega
        · omega
        · simp; omega
        · have := hlt0 b e; omega
      have hb9 : Below W.heap.size W (w4.alloc (.cells #[.slice a4 z.links.length c4, .slice a5 z.data.length c5] 75)) := below_alloc (below_then hbw4 hb) _
      have HX := hid hx; clear hx
      have HS9 := hid hb9.size
      have HA := hid OA; clear OA OA0 O4 hlt0
      have HB9 := hid hb9; clear hb9
      go_wp2_with (at_builtin; go_loud (refine wpList_append_src rfl _ _ _ rfl W.heap.size 75 i0 (.agg #[.slice none 0 0, .slice none 0 0]) 2 48 Tryz.underlying23 hi hz0 hz1 hz2 rfl (by decide) u3 T.length _ rfl HA.out.1 (some ⟨w4.heap.size, 0, none⟩) 1 1 [.slice a4 z.links.length c4, .slice a5 z.data.length c5] rfl (src_new1 w4 75 _ rfl rfl rfl) (by intro u hu; simp at hu; rcases hu with rfl | rfl <;> rfl) (by simp only [maxLen]; omega) (by omega) HS9.out ?_; intro v1 w5 hown1 hgrow1 hat1; have OP := hid (OwnEls.push HA.out rfl HX.out hown1 hgrow1 hat1 hgrow1.size); have B5 := hid (HB9.out.grown hgrow1 HS9.out (fun g e => (HA.out.1.lt g e).1)); clear hown1 hgrow1 hat1))
      go_roundw
      case rel => exact ⟨T.length + 1, by omega, by go_num, by rw [htk.out]; exact OP.out, B5.out⟩
      case measure => simp [intOf]; omega
    · obtain rfl : k = l.length := by omega
      rw [List.take_length] at hown
      obtain ⟨av, cv, rfl⟩ := OwnEls.form hown
      have HV := hid hown; clear hown
      have P0 := Q0.out.below hb LT0
      have P1 := Q1.out.below hb LT1
      have y0 : wr.cell? ⟨w.heap.size, 0, none⟩ = some (.int .u64 ep) := P0.cell 0
      have y1 : wr.cell? ⟨w.heap.size, 1, none⟩ = some (.int .u64 ba) := P0.cell 1
      have y2 : wr.cell? ⟨w.heap.size, 2, none⟩ = some (.slice a l.length c) := P0.cell 2
      have y3 := P0.free 2
      have z0 : wr.cell? ⟨w.heap.size + 1, 0, none⟩ = some (.int .u64 0) := P1.cell 0
      have z1 : wr.cell? ⟨w.heap.size + 1, 1, none⟩ = some (.int .u64 0) := P1.cell 1
      have z2 : wr.cell? ⟨w.heap.size + 1, 2, none⟩ = some (.slice none 0 0) := P1.cell 2
      have f0 := P1.free 0
      have f1 := P1.free 1
      have f2 := P1.free 2
      clear P0 P1
      go_wp2
      refine bodyPost_ret (v := .agg #[.int .u64 ep, .int .u64 ba, .slice av l.length cv]) (by simp [results, Tryz.results27, go_sem, y0, y1, y2, z0, z1, z2]) rfl ⟨_, rfl, ?_, by (repeat (first | exact Below.refl _ _ | assumption | (refine below_alloc ?_ _) | (refine Below.setCell ?_ (by first | omega | (simp; done) | (simp; omega)) _) | (refine Below.drew ?_) | (refine below_drewN ?_ _) | (refine below_then (by assumption) ?_)))⟩
      have hw2 := HW.out
      exact OwnEls.low (OwnEls.stay HV.out (fun b hb hb2 => by repeat rw [Below.heap_setCell _ _ _ _ (by dsimp only; omega)]) (by simp)) (by omega) (by omega)

theorem le_sum_of' {l : List Nat} {n : Nat} (h : n ∈ l) : n ≤ l.sum := by
  induction l with
  | nil => cases h
  | cons a l ih =>
    rw [List.sum_cons]
    rcases List.mem_cons.1 h with rfl | h
    · omega
    · have := ih h; omega
theorem batch_f2 (W : World) (x y z : Value) : (Instr.field 25 (.agg #[x, y, z]) 2).run Tryz.prog W = .ok z W := by kernel_rfl
theorem entryW_one {S : Nat → Prop} {w : World} (cs : List Value) (x : Entry) (h : rEntryW.r S w cs x) : ∀ u ∈ cs, u.oneCell' = true := by
  obtain ⟨a, c, a', c', rfl, _⟩ := entry_cells (entryW_entry h)
  intro u hu
  simp at hu
  rcases hu with rfl | rfl <;> rfl
theorem fair_of {b : Batch} (h : batchR b = true) : Fair b.entries ∧ MildB b := by
  simp only [batchR, Bool.and_eq_true, decide_eq_true_eq] at h
  obtain ⟨_, hf, ht, he⟩ := h
  simp only [fitsR, decide_eq_true_eq] at hf
  have key : ∀ (l : List Entry) (p : Int), entriesR p l = true → ∀ e ∈ l, e.links.length ≤ 1000000 ∧ ∀ x ∈ e.links, x.backs.length ≤ 1000000 := by
    intro l
    induction l with
    | nil => intro p _ e he; simp at he
    | cons a l ih =>
      intro p h e he
      simp only [entriesR, Bool.and_eq_true] at h
      rcases List.mem_cons.1 he with rfl | he
      · have h1 := h.1
        simp only [entryR, linksR, Bool.and_eq_true, decide_eq_true_eq, List.all_eq_true] at h1
        refine ⟨by have := h1.1; omega, fun x hx => ?_⟩
        have := h1.1.2.2 x hx
        simp only [linkR, Bool.and_eq_true, decide_eq_true_eq] at this
        omega
      · exact ih _ h.2 e he
  have hd : ∀ e ∈ b.entries, e.data.length ≤ total b.entries := fun e he => by
    unfold total
    exact le_sum_of' (List.mem_map.2 ⟨e, he, rfl⟩)
  refine ⟨⟨by omega, by omega, fun e h x hx => by have := (key _ _ he e h).2 x hx; omega⟩, by omega, fun e h => ⟨by have := (key _ _ he e h).1; omega, by have := hd e h; omega, fun x hx => by have := (key _ _ he e h).2 x hx; omega⟩⟩

structure PkI (w W : World) (x : Batch) (ax : Option Addr) (cx : Nat) (b : Batch) (ab : Option Addr) (cb : Nat) : Prop where
  below : Below w.heap.size w W
  g : Blk W w.heap.size 25 #[.int .u64 x.epoch, .int .u64 x.base, .slice ax x.entries.length cx]
  x : Blk W (w.heap.size + 1) 25 #[.int .u64 b.epoch, .int .u64 b.base, .slice ab b.entries.length cb]
  r : Blk W (w.heap.size + 1 + 1) 25 #[.int .u64 0, .int .u64 0, .slice none 0 0]
theorem PkI.later {w W W' : World} {x : Batch} {ax : Option Addr} {cx : Nat} {b : Batch} {ab : Option Addr} {cb : Nat} (h : PkI w W x ax cx b ab cb) (hb : Below W.heap.size W W') : PkI w W' x ax cx b ab cb :=
  ⟨below_then hb h.below, h.g.later hb, h.x.later hb, h.r.later hb⟩
theorem PkI.grown {w W W' : World} {x : Batch} {ax : Option Addr} {cx : Nat} {b : Batch} {ab : Option Addr} {cb : Nat} {v : Value} (h : PkI w W x ax cx b ab cb) (hg : W.grownBy W' v.ownBlock) (hv : ∀ g, v.ownBlock = some g → w.heap.size + 3 ≤ g) : PkI w W' x ax cx b ab cb :=
  ⟨h.below.grown hg h.below.size (fun g e => by have := hv g e; omega), h.g.grown hg (fun e => by have := hv _ e.symm; omega), h.x.grown hg (fun e => by have := hv _ e.symm; omega), h.r.grown hg (fun e => by have := hv _ e.symm; omega)⟩

set_option maxRecDepth 100000 in
set_option maxHeartbeats 6400000 in
theorem peek_join (x b : Batch) (ax ab : Option Addr) (nx cx nb cb : Nat) (w : World) (hx0 : 0 ≤ x.epoch ∧ x.epoch ≤ 18446744073709551615) (hx1 : 0 ≤ x.base ∧ x.base ≤ 18446744073709551615) (hx : rEntries.r (· < w.heap.size) w [.slice ax nx cx] x.entries)
    (hb0 : 0 ≤ b.epoch ∧ b.epoch ≤ 18446744073709551615) (hb1 : 0 ≤ b.base ∧ b.base ≤ 18446744073709551615) (hb : rEntries.r (· < w.heap.size) w [.slice ab nb cb] b.entries) (hxR : batchR x = true) (hbR : batchR b = true) :
    Calls Tryz.prog 107 #[.agg #[.int .u64 x.epoch, .int .u64 x.base, .slice ax nx cx], .agg #[.int .u64 b.epoch, .int .u64 b.base, .slice ab nb cb]] w fun r w' => ∃ (v : Option Addr) (n' c' : Nat) (e' b' : Int), r = .returned (.tuple #[.agg #[.int .u64 e', .int .u64 b', .slice v n' c'], .int .i64 (joinC2 x b)]) ∧
      (joinC2 x b = 0 → e' = x.epoch ∧ b' = x.base ∧ n' = (joinB x b).entries.length ∧ rEntries.r (fun q => w.heap.size ≤ q ∧ q < w'.heap.size) w' [.slice v n' c'] (joinB x b).entries) ∧ Below w.heap.size w w' := by
  obtain ⟨rfl, hm, _, _⟩ := sl_len hx
  obtain ⟨rfl, hm2, _, _⟩ := sl_len hb
  obtain ⟨i0, hi, hz0, hz1, hz2⟩ := info_parts infoEntry
  obtain ⟨fx, mx⟩ := fair_of hxR
  obtain ⟨fb, mb⟩ := fair_of hbR
  have hxf := batchR_facts hxR
  have hbf := batchR_facts hbR
  have HR := hid (fun (W : World) (hW : Below w.heap.size w W) => batch_right x ax _ cx W hx0 hx1 (lift hx hW) fx)
  have HRb := hid (fun (W : World) (hW : Below w.heap.size w W) => batch_right b ab _ cb W hb0 hb1 (lift hb hW) fb)
  rw [hxR] at HR
  rw [hbR] at HRb
  have HEN := hid (fun (W : World) => batch_end x.epoch x.base ax x.entries.length cx W hx1.1 (by omega) (by omega))
  have HI0 : Hid (PkI w (((w.alloc (.cells #[.int .u64 x.epoch, .int .u64 x.base, .slice ax x.entries.length cx] 25)).alloc (.cells #[.int .u64 b.epoch, .int .u64 b.base, .slice ab b.entries.length cb] 25)).alloc (.cells #[.int .u64 0, .int .u64 0, .slice none 0 0] 25)) x ax cx b ab cb) := hid
    ⟨below_alloc (below_alloc (below_alloc (Below.refl _ _) _) _) _, ((Blk.new w _ _).alloc _).alloc _, (Blk.new1 w _ _ _).alloc _, Blk.newAt _ _ _ (by simp)⟩
  by_cases h1 : x.base + x.entries.length = b.base
  · have d1 : (x.base + (x.entries.length : Int) != b.base) = false := by simp [h1]
    by_cases h2 : x.epoch = b.epoch
    · have d2 : (x.epoch != b.epoch) = false := by simp [h2]
      have hC : Hid (joinC2 x b = if batchR (joinB x b) = true then 0 else 2) := hid (by unfold joinC2; rw [if_neg (by simp [hxR, hbR]), if_neg (by simp [h1, h2])])
      have kf := batch_f2
      have HCX := hid (fun (W : World) (hW : Below w.heap.size w W) => batch_copyO x ax _ cx W (lift hx hW) mx.1 mx.2)
      have HCB := hid (fun (W : World) (hW : Below w.heap.size w W) => batch_copyW b ab _ cb W (lift hb hW) mb.1 mb.2)
      have hfj : Fair (joinB x b).entries := ⟨by simp only [joinB, total_app]; omega, by simp only [joinB, List.length_append]; omega, fun e he => by
        rcases List.mem_append.1 he with he | he
        · exact fx.2.2 e he
        · exact fb.2.2 e he⟩
      have HRJ := hid (fun (W : World) (a : Option Addr) (c : Nat) (hl : rEntries.r (· < W.heap.size) W [.slice a (x.entries.length + b.entries.length) c] (joinB x b).entries) => batch_right (joinB x b) a _ c W hx0 hx1 hl hfj)
      generalize batchR (joinB x b) = J at *
      have hlx : x.entries.length ≤ 16 := hxf.2.2.2.1
      have hlb : b.entries.length ≤ 16 := hbf.2.2.2.1
      clear hx hb h1 h2 hxR hbR hxf hbf fx mx fb mb hfj
      go_enter Tryz.func107, Tryz.ntmps107
      go_wp2_with fail
      refine (HR.out _ HI0.out.below).mono ?_
      rintro r w1 ⟨rfl, hb1⟩
      have HI1 := hid (HI0.out.later hb1)
      have g0 : w1.cell? ⟨w.heap.size, 0, none⟩ = some (.int .u64 x.epoch) := HI1.out.g.cell 0
      have g1 : w1.cell? ⟨w.heap.size, 1, none⟩ = some (.int .u64 x.base) := HI1.out.g.cell 1
      have g2 : w1.cell? ⟨w.heap.size, 2, none⟩ = some (.slice ax x.entries.length cx) := HI1.out.g.cell 2
      have x0 : w1.cell? ⟨w.heap.size + 1, 0, none⟩ = some (.int .u64 b.epoch) := HI1.out.x.cell 0
      have x1 : w1.cell? ⟨w.heap.size + 1, 1, none⟩ = some (.int .u64 b.base) := HI1.out.x.cell 1
      have x2 : w1.cell? ⟨w.heap.size + 1, 2, none⟩ = some (.slice ab b.entries.length cb) := HI1.out.x.cell 2
      have r0 : w1.cell? ⟨w.heap.size + 1 + 1, 0, none⟩ = some (.int .u64 0) := HI1.out.r.cell 0
      have r1 : w1.cell? ⟨w.heap.size + 1 + 1, 1, none⟩ = some (.int .u64 0) := HI1.out.r.cell 1
      have r2 : w1.cell? ⟨w.heap.size + 1 + 1, 2, none⟩ = some (.slice none 0 0) := HI1.out.r.cell 2
      have f0 : w1.frozen? ⟨w.heap.size + 1 + 1, 0, none⟩ = false := HI1.out.r.free 0
      have f1 : w1.frozen? ⟨w.heap.size + 1 + 1, 1, none⟩ = false := HI1.out.r.free 1
      have f2 : w1.frozen? ⟨w.heap.size + 1 + 1, 2, none⟩ = false := HI1.out.r.free 2
      have hrz : w.heap.size + 1 + 1 < w1.heap.size := HI1.out.r.lt
      go_wp2_with fail
      refine (HRb.out _ HI1.out.below).mono ?_
      rintro r w2 ⟨rfl, hb2⟩
      have HI2 := hid (HI1.out.later hb2)
      clear g0 g1 g2 x0 x1 x2 r0 r1 r2 f0 f1 f2 hrz
      clear hb1 hb2
      have g0 : w2.cell? ⟨w.heap.size, 0, none⟩ = some (.int .u64 x.epoch) := HI2.out.g.cell 0
      have g1 : w2.cell? ⟨w.heap.size, 1, none⟩ = some (.int .u64 x.base) := HI2.out.g.cell 1
      have g2 : w2.cell? ⟨w.heap.size, 2, none⟩ = some (.slice ax x.entries.length cx) := HI2.out.g.cell 2
      have x0 : w2.cell? ⟨w.heap.size + 1, 0, none⟩ = some (.int .u64 b.epoch) := HI2.out.x.cell 0
      have x1 : w2.cell? ⟨w.heap.size + 1, 1, none⟩ = some (.int .u64 b.base) := HI2.out.x.cell 1
      have x2 : w2.cell? ⟨w.heap.size + 1, 2, none⟩ = some (.slice ab b.entries.length cb) := HI2.out.x.cell 2
      have r0 : w2.cell? ⟨w.heap.size + 1 + 1, 0, none⟩ = some (.int .u64 0) := HI2.out.r.cell 0
      have r1 : w2.cell? ⟨w.heap.size + 1 + 1, 1, none⟩ = some (.int .u64 0) := HI2.out.r.cell 1
      have r2 : w2.cell? ⟨w.heap.size + 1 + 1, 2, none⟩ = some (.slice none 0 0) := HI2.out.r.cell 2
      have f0 : w2.frozen? ⟨w.heap.size + 1 + 1, 0, none⟩ = false := HI2.out.r.free 0
      have f1 : w2.frozen? ⟨w.heap.size + 1 + 1, 1, none⟩ = false := HI2.out.r.free 1
      have f2 : w2.frozen? ⟨w.heap.size + 1 + 1, 2, none⟩ = false := HI2.out.r.free 2
      have hrz : w.heap.size + 1 + 1 < w2.heap.size := HI2.out.r.lt
      have G0 := fun s : Later w2 => s.cell g0
      have G1 := fun s : Later w2 => s.cell g1
      have G2 := fun s : Later w2 => s.cell g2
      have X0 := fun s : Later w2 => s.cell x0
      have X1 := fun s : Later w2 => s.cell x1
      have X2 := fun s : Later w2 => s.cell x2
      have HE := hid (fun s : Later w2 => HEN.out s.at_)
      go_wp2_with fail
      refine wp_region_later (by kernel_rfl) (by kernel_rfl) ?_
      repeat (go_big_quiet_step ((go_at_call 24; exact later_of (HE.out _))))
      refine wpQuiet_nil ?_
      rintro W3 ⟨⟨W3', hb3⟩, rfl⟩
      have HI3 := hid (HI2.out.later hb3)
      clear G0 G1 G2 X0 X1 X2 HE hb3
      clear g0 g1 g2 x0 x1 x2 r0 r1 r2 f0 f1 f2 hrz
      have g0 : W3.cell? ⟨w.heap.size, 0, none⟩ = some (.int .u64 x.epoch) := HI3.out.g.cell 0
      have g1 : W3.cell? ⟨w.heap.size, 1, none⟩ = some (.int .u64 x.base) := HI3.out.g.cell 1
      have g2 : W3.cell? ⟨w.heap.size, 2, none⟩ = some (.slice ax x.entries.length cx) := HI3.out.g.cell 2
      have x0 : W3.cell? ⟨w.heap.size + 1, 0, none⟩ = some (.int .u64 b.epoch) := HI3.out.x.cell 0
      have x1 : W3.cell? ⟨w.heap.size + 1, 1, none⟩ = some (.int .u64 b.base) := HI3.out.x.cell 1
      have x2 : W3.cell? ⟨w.heap.size + 1, 2, none⟩ = some (.slice ab b.entries.length cb) := HI3.out.x.cell 2
      have r0 : W3.cell? ⟨w.heap.size + 1 + 1, 0, none⟩ = some (.int .u64 0) := HI3.out.r.cell 0
      have r1 : W3.cell? ⟨w.heap.size + 1 + 1, 1, none⟩ = some (.int .u64 0) := HI3.out.r.cell 1
      have r2 : W3.cell? ⟨w.heap.size + 1 + 1, 2, none⟩ = some (.slice none 0 0) := HI3.out.r.cell 2
      have f0 : W3.frozen? ⟨w.heap.size + 1 + 1, 0, none⟩ = false := HI3.out.r.free 0
      have f1 : W3.frozen? ⟨w.heap.size + 1 + 1, 1, none⟩ = false := HI3.out.r.free 1
      have f2 : W3.frozen? ⟨w.heap.size + 1 + 1, 2, none⟩ = false := HI3.out.r.free 2
      have hrz : w.heap.size + 1 + 1 < W3.heap.size := HI3.out.r.lt
      go_wp2_with fail
      refine (HCX.out _ HI3.out.below).mono ?_
      rintro r w4 ⟨v4, rfl, ho4, hb4⟩
      clear g0 g1 g2 x0 x1 x2 r0 r1 r2 f0 f1 f2 hrz
      obtain ⟨a4, c4, rfl⟩ := OwnEls.form ho4
      have HI4 := hid (HI3.out.later hb4)
      have HO4 := hid ho4
      have hz3 : w.heap.size + 3 ≤ W3.heap.size := by have := HI3.out.r.lt; omega
      have hz34 : W3.heap.size ≤ w4.heap.size := hb4.size
      clear ho4 hb4
      go_wp2_with fail
      have hb45 : Below w4.heap.size w4 (w4.alloc (.cells #[.int .u64 x.epoch, .int .u64 x.base, .slice a4 x.entries.length c4] 25)) := by (repeat (first | with_reducible exact Below.refl _ _ | with_reducible assumption | (with_reducible refine below_alloc ?_ _) | (with_reducible refine Below.setCell ?_ (by first | omega | (simp; done) | (simp; omega)) _) | (with_reducible refine Below.drew ?_) | (with_reducible refine below_drewN ?_ _) | (refine below_then (by with_reducible assumption) ?_)))
      have hT5 := Blk.new w4 25 #[.int .u64 x.epoch, .int .u64 x.base, .slice a4 x.entries.length c4]
      have hz5 : w4.heap.size < (w4.alloc (.cells #[.int .u64 x.epoch, .int .u64 x.base, .slice a4 x.entries.length c4] 25)).heap.size := hT5.lt
      generalize w4.alloc (.cells #[.int .u64 x.epoch, .int .u64 x.base, .slice a4 x.entries.length c4] 25) = W5 at *
      have HI5 := hid (HI4.out.later hb45)
      have HT5 := hid hT5
      have HB45 := hid hb45
      have HNT : Hid (∀ g, (Value.slice a4 x.entries.length c4).ownBlock = some g → W3.heap.size ≤ g ∧ g < w4.heap.size) := hid (by obtain ⟨cells, OA⟩ := HO4.out; exact own_lt OA.1)
      have t2 : W5.cell? ⟨w4.heap.size, 2, none⟩ = some (.slice a4 x.entries.length c4) := hT5.cell 2
      have x0 : W5.cell? ⟨w.heap.size + 1, 0, none⟩ = some (.int .u64 b.epoch) := HI5.out.x.cell 0
      have x1 : W5.cell? ⟨w.heap.size + 1, 1, none⟩ = some (.int .u64 b.base) := HI5.out.x.cell 1
      have x2 : W5.cell? ⟨w.heap.size + 1, 2, none⟩ = some (.slice ab b.entries.length cb) := HI5.out.x.cell 2
      clear hT5 hb45
      refine wp_region_last_held (fun w' => w'.cell? ⟨w4.heap.size, 2, none⟩ = some (.slice a4 x.entries.length c4) ∧ w'.cell? ⟨w.heap.size + 1, 0, none⟩ = some (.int .u64 b.epoch) ∧ w'.cell? ⟨w.heap.size + 1, 1, none⟩ = some (.int .u64 b.base) ∧ w'.cell? ⟨w.heap.size + 1, 2, none⟩ = some (.slice ab b.entries.length cb)) _ (by kernel_rfl) rfl (by kernel_rfl) ⟨t2, x0, x1, x2⟩ (fun hHeld => ?_)
      simp only [noopLast, noopOf]
      refine wpAnyH_take (i := 0) (oi := _) (v := ?_) rfl (by decide +kernel) (by decide +kernel) (by decide +kernel) (fun _ _ _ h => h) (Or.inl ⟨by rfl, ?_⟩) (by assumption) ?_
      rotate_left
      · (intro w hSw; (try dsimp only at hSw); go_simp <;> with_reducible rfl)
      (try simp only [Act.put, List.setIfInBounds_toArray, List.set_cons_zero, List.set_cons_succ])
      refine wpAnyH_take (i := 1) (oi := _) (v := ?_) rfl (by decide +kernel) (by decide +kernel) (by decide +kernel) (fun _ _ _ h => h) (Or.inl ⟨by rfl, ?_⟩) (by assumption) ?_
      rotate_left
      · (intro w hSw; (try dsimp only at hSw); go_simp <;> with_reducible rfl)
      (try simp only [Act.put, List.setIfInBounds_toArray, List.set_cons_zero, List.set_cons_succ])
      refine wpAnyH_take (i := 2) (oi := _) (v := ?_) rfl (by decide +kernel) (by decide +kernel) (by decide +kernel) (fun _ _ _ h => h) (Or.inl ⟨by rfl, ?_⟩) (by assumption) ?_
      rotate_left
      · (intro w hSw; (try dsimp only at hSw); go_simp <;> with_reducible rfl)
      (try simp only [Act.put, List.setIfInBounds_toArray, List.set_cons_zero, List.set_cons_succ])
      refine wpAnyH_ready (rs := [3]) (by decide +kernel) (by simp) ?_
      refine AllReadyH.cons (o := _) rfl (fun K hK => ?_) AllReadyH.nil
      (go_simp; go_at_call 27; refine (HCB.out _ HI5.out.below.drew).mono ?_; rintro e1 w7 ⟨v7, rfl, hv7, hb7⟩; obtain ⟨a7, c7, hfv, hr7, _⟩ := sl_form (slW_sl hv7); simp only [List.cons.injEq, and_true] at hfv; subst hfv; have hb57 : Below W5.heap.size W5 w7 := below_then hb7 (Below.refl _ _).drew; have HI7 := hid (HI5.out.later hb57); have HT7 := hid (HT5.out.later hb57); have HB47 := hid (below_then hb57 HB45.out); have p2 : w7.cell? ⟨w4.heap.size, 2, none⟩ = some (.slice a4 x.entries.length c4) := HT7.out.cell 2; have q0 : w7.cell? ⟨w.heap.size + 1, 0, none⟩ = some (.int .u64 b.epoch) := HI7.out.x.cell 0; have q1 : w7.cell? ⟨w.heap.size + 1, 1, none⟩ = some (.int .u64 b.base) := HI7.out.x.cell 1; have q2 : w7.cell? ⟨w.heap.size + 1, 2, none⟩ = some (.slice ab b.entries.length cb) := HI7.out.x.cell 2; have HR7 := hid (rEntriesW.mono (S' := fun q => W5.heap.size ≤ q ∧ q < w7.heap.size) hv7 fun q hq => by simpa [Fresh] using hq); have hz7 := hb57.size; clear hv7 hr7 hb7 hb57; (try dsimp only))
      refine hK.out _ _ ?_ (fun hHeld => ?_)
      · ((try dsimp only); refine ⟨?_, ?_, ?_, ?_⟩ <;> (first | assumption | (go_keep; done)))
      clear hK K
      (try simp only [Act.put, List.setIfInBounds_toArray, List.set_cons_zero, List.set_cons_succ])
      refine wpAnyH_take (i := 4) (oi := _) (v := ?_) rfl (by decide +kernel) (by decide +kernel) (by decide +kernel) (fun _ _ _ h => h) (Or.inl ⟨by rfl, ?_⟩) (by assumption) ?_
      rotate_left
      · (intro w hSw; (try dsimp only at hSw); go_simp <;> with_reducible rfl)
      (try simp only [Act.put, List.setIfInBounds_toArray, List.set_cons_zero, List.set_cons_succ])
      refine wpAnyH_ready (rs := [5]) (by decide +kernel) (by simp) ?_
      refine AllReadyH.cons (o := _) rfl (fun K hK => ?_) AllReadyH.nil
      (obtain ⟨cells2, hcl, hcs, hcr, hsr, hone⟩ := sl_cells (slW_sl HR7.out) entryW_one; obtain ⟨cells, OA4⟩ := HO4.out; have OF7 := ((OwnElsF.of OA4).keep (w' := w7) (fun q hq => HB47.out.block q hq.2) (fun g hg => HB47.out.block g (HNT.out g hg).2)).mono (F' := (fun q => (W3.heap.size ≤ q ∧ q < w4.heap.size) ∨ (W5.heap.size ≤ q ∧ q < w7.heap.size))) (fun q hq => .inl hq); have HOF := hid OF7; clear OF7 OA4; refine step_append_src (by rfl) _ _ _ (by rfl) W3.heap.size 75 i0 (.agg #[.slice none 0 0, .slice none 0 0]) 2 48 Tryz.underlying23 hi hz0 hz1 hz2 rfl (by decide) (.slice a4 x.entries.length c4) x.entries.length cells.flatten (by rfl) HOF.out.1 a7 b.entries.length c7 cells2.flatten (by rfl) (hsr _ fun _ _ => rfl) hone (by simp only [maxLen]; omega) (by omega) (by omega) ?_; intro a8 c8 w8 hown8 hgrow8 hat8; have HP8 := hid (OwnElsF.app HOF.out (fun q hq => by rcases hq with hq | hq <;> omega) hcl hcs (fun i cs y hi hy => rEntryW.mono (hcr i cs y hi hy) fun q hq => ⟨.inr hq, fun e => by have := (HNT.out q e).2; have := hq.1; omega⟩) hown8 hgrow8 hat8); have HA8 := hid hat8; have HI8 := hid (HI7.out.grown hgrow8 (fun g e => by have := (HNT.out g e).1; omega)); have HT8 := hid (HT7.out.grown hgrow8 (fun e => by have := (HNT.out _ e.symm).2; omega)); have m2 : w8.cell? ⟨w4.heap.size, 2, none⟩ = some (.slice a4 x.entries.length c4) := HT8.out.cell 2; have m3 : w8.frozen? ⟨w4.heap.size, 2, none⟩ = false := HT8.out.free 2; have m0 : w8.cell? ⟨w4.heap.size, 0, none⟩ = some (.int .u64 x.epoch) := HT8.out.cell 0; have m1 : w8.cell? ⟨w4.heap.size, 1, none⟩ = some (.int .u64 x.base) := HT8.out.cell 1; have m4 : w4.heap.size < w8.heap.size := HT8.out.lt; have n0 : w8.cell? ⟨w.heap.size + 1, 0, none⟩ = some (.int .u64 b.epoch) := HI8.out.x.cell 0; have n1 : w8.cell? ⟨w.heap.size + 1, 1, none⟩ = some (.int .u64 b.base) := HI8.out.x.cell 1; have n2 : w8.cell? ⟨w.heap.size + 1, 2, none⟩ = some (.slice ab b.entries.length cb) := HI8.out.x.cell 2; have hz8 : w7.heap.size ≤ w8.heap.size := hgrow8.size; clear hown8 hgrow8 hat8 hcl hcs hcr hsr hone)
      refine hK.out _ _ ?_ (fun hHeld => ?_)
      · ((try dsimp only); refine ⟨?_, ?_, ?_, ?_⟩ <;> (first | assumption | (go_keep; done)))
      clear hK K
      (try simp only [Act.put, List.setIfInBounds_toArray, List.set_cons_zero, List.set_cons_succ])
      refine wpAnyH_take (i := 6) (oi := _) (v := ?_) rfl (by decide +kernel) (by decide +kernel) (by decide +kernel) (fun _ _ _ h => h) (Or.inl ⟨by rfl, ?_⟩) (by assumption) ?_
      rotate_left
      · (intro w hSw; (try dsimp only at hSw); go_simp <;> with_reducible rfl)
      (try simp only [Act.put, List.setIfInBounds_toArray, List.set_cons_zero, List.set_cons_succ])
      refine wpAnyH_take (i := 7) (oi := _) (v := ?_) rfl (by decide +kernel) (by decide +kernel) (by decide +kernel) (fun _ _ _ h => h) (Or.inl ⟨by rfl, ?_⟩) (by assumption) ?_
      rotate_left
      · (intro w hSw; (try dsimp only at hSw); go_simp <;> with_reducible rfl)
      (try simp only [Act.put, List.setIfInBounds_toArray, List.set_cons_zero, List.set_cons_succ])
      refine wpAnyH_done (by kernel_rfl) ?_ _
      show wpList _ _ _ _ _ _
      have hne2 : w.heap.size + 1 + 1 ≠ w4.heap.size := by omega
      go_wp2_with fail
      have HT9 := hid (HT8.out.set 2 (.slice a8 (x.entries.length + b.entries.length) c8))
      simp only [List.setIfInBounds_toArray, List.set_cons_zero, List.set_cons_succ] at HT9
      have HI9 : Hid (PkI w (w8.setCell ⟨w4.heap.size, 2, none⟩ (.slice a8 (x.entries.length + b.entries.length) c8)) x ax cx b ab cb) := hid ⟨HI8.out.below.setCell (by dsimp only; omega) _, HI8.out.g.far (by dsimp only; omega) _, HI8.out.x.far (by dsimp only; omega) _, HI8.out.r.far (by dsimp only; omega) _⟩
      have hw : ∀ q, (((W3.heap.size ≤ q ∧ q < w4.heap.size) ∨ (W5.heap.size ≤ q ∧ q < w7.heap.size)) ∨ (Value.slice a8 (x.entries.length + b.entries.length) c8).ownBlock = some q) → W3.heap.size ≤ q ∧ q ≠ w4.heap.size ∧ q < w8.heap.size := fun q hq => by
        rcases hq with (hq | hq) | hq
        · omega
        · omega
        · have h1 := own_lt HP8.out.1 q hq
          refine ⟨by omega, ?_, h1.2⟩
          rcases HA8.out with e | e
          · have := HNT.out q (e ▸ hq); omega
          · rw [hq] at e; have := Option.some.inj e; omega
      have HX9 : Hid (rEntries.r (fun q => w.heap.size + 3 ≤ q ∧ q < (w8.setCell ⟨w4.heap.size, 2, none⟩ (.slice a8 (x.entries.length + b.entries.length) c8)).heap.size) (w8.setCell ⟨w4.heap.size, 2, none⟩ (.slice a8 (x.entries.length + b.entries.length) c8)) [.slice a8 (x.entries.length + b.entries.length) c8] (joinB x b).entries) := hid (by
        have h := rSl_imp (fun _ _ _ => entryW_entry) (OwnElsF.slice HP8.out)
        refine rEntries.mono (rEntries.keep h fun q hq => Below.heap_setCell _ _ _ _ (hw q hq).2.1) fun q hq => ⟨by have := (hw q hq).1; omega, by have := (hw q hq).2.2; simpa using this⟩)
      clear hw HP8 HA8 HT8 HI8 m0 m1 m2 m3 m4 n0 n1 n2 hne2
      generalize w8.setCell ⟨w4.heap.size, 2, none⟩ (.slice a8 (x.entries.length + b.entries.length) c8) = W9 at *
      refine (HRJ.out W9 a8 c8 (rEntries.mono HX9.out fun q hq => hq.2)).mono ?_
      rintro r w10 ⟨rfl, hb10⟩
      have HI10 := hid (HI9.out.later hb10)
      have HT10 := hid (HT9.out.later hb10)
      have HX10 : Hid (rEntries.r (fun q => w.heap.size + 3 ≤ q ∧ q < w10.heap.size) w10 [.slice a8 (x.entries.length + b.entries.length) c8] (joinB x b).entries) := hid (rEntries.mono (rEntries.keep HX9.out fun q hq => hb10.block q hq.2) fun q hq => ⟨hq.1, Nat.lt_of_lt_of_le hq.2 hb10.size⟩)
      clear hb10 HX9 HI9 HT9
      cases J
      · rw [if_neg (by simp)] at hC
        have g0 : w10.cell? ⟨w.heap.size, 0, none⟩ = some (.int .u64 x.epoch) := HI10.out.g.cell 0
        have g1 : w10.cell? ⟨w.heap.size, 1, none⟩ = some (.int .u64 x.base) := HI10.out.g.cell 1
        have g2 : w10.cell? ⟨w.heap.size, 2, none⟩ = some (.slice ax x.entries.length cx) := HI10.out.g.cell 2
        have x0 : w10.cell? ⟨w.heap.size + 1, 0, none⟩ = some (.int .u64 b.epoch) := HI10.out.x.cell 0
        have x1 : w10.cell? ⟨w.heap.size + 1, 1, none⟩ = some (.int .u64 b.base) := HI10.out.x.cell 1
        have x2 : w10.cell? ⟨w.heap.size + 1, 2, none⟩ = some (.slice ab b.entries.length cb) := HI10.out.x.cell 2
        have r0 : w10.cell? ⟨w.heap.size + 1 + 1, 0, none⟩ = some (.int .u64 0) := HI10.out.r.cell 0
        have r1 : w10.cell? ⟨w.heap.size + 1 + 1, 1, none⟩ = some (.int .u64 0) := HI10.out.r.cell 1
        have r2 : w10.cell? ⟨w.heap.size + 1 + 1, 2, none⟩ = some (.slice none 0 0) := HI10.out.r.cell 2
        have f0 : w10.frozen? ⟨w.heap.size + 1 + 1, 0, none⟩ = false := HI10.out.r.free 0
        have f1 : w10.frozen? ⟨w.heap.size + 1 + 1, 1, none⟩ = false := HI10.out.r.free 1
        have f2 : w10.frozen? ⟨w.heap.size + 1 + 1, 2, none⟩ = false := HI10.out.r.free 2
        have hrz : w.heap.size + 1 + 1 < w10.heap.size := HI10.out.r.lt
        go_wp2
        refine bodyPost_ret (v := .tuple #[.agg #[.int .u64 0, .int .u64 0, .slice none 0 0], .int .i64 2]) (by simp [results, Tryz.results107, go_sem, World.cell?_setCell_far, r0, r1, r2]) rfl ?_
        rw [hC.out]
        refine ⟨none, 0, 0, 0, 0, rfl, fun h => absurd h (by decide), ?_⟩
        have hb9 := HI10.out.below
        clear hC
        exact ((hb9.setCell (by dsimp only; omega) _).setCell (by dsimp only; omega) _).setCell (by dsimp only; omega) _

      · rw [if_pos rfl] at hC
        have g0 : w10.cell? ⟨w.heap.size, 0, none⟩ = some (.int .u64 x.epoch) := HI10.out.g.cell 0
        have g1 : w10.cell? ⟨w.heap.size, 1, none⟩ = some (.int .u64 x.base) := HI10.out.g.cell 1
        have g2 : w10.cell? ⟨w.heap.size, 2, none⟩ = some (.slice ax x.entries.length cx) := HI10.out.g.cell 2
        have x0 : w10.cell? ⟨w.heap.size + 1, 0, none⟩ = some (.int .u64 b.epoch) := HI10.out.x.cell 0
        have x1 : w10.cell? ⟨w.heap.size + 1, 1, none⟩ = some (.int .u64 b.base) := HI10.out.x.cell 1
        have x2 : w10.cell? ⟨w.heap.size + 1, 2, none⟩ = some (.slice ab b.entries.length cb) := HI10.out.x.cell 2
        have r0 : w10.cell? ⟨w.heap.size + 1 + 1, 0, none⟩ = some (.int .u64 0) := HI10.out.r.cell 0
        have r1 : w10.cell? ⟨w.heap.size + 1 + 1, 1, none⟩ = some (.int .u64 0) := HI10.out.r.cell 1
        have r2 : w10.cell? ⟨w.heap.size + 1 + 1, 2, none⟩ = some (.slice none 0 0) := HI10.out.r.cell 2
        have f0 : w10.frozen? ⟨w.heap.size + 1 + 1, 0, none⟩ = false := HI10.out.r.free 0
        have f1 : w10.frozen? ⟨w.heap.size + 1 + 1, 1, none⟩ = false := HI10.out.r.free 1
        have f2 : w10.frozen? ⟨w.heap.size + 1 + 1, 2, none⟩ = false := HI10.out.r.free 2
        have hrz : w.heap.size + 1 + 1 < w10.heap.size := HI10.out.r.lt
        have t0 : w10.cell? ⟨w4.heap.size, 0, none⟩ = some (.int .u64 x.epoch) := HT10.out.cell 0
        have t1 : w10.cell? ⟨w4.heap.size, 1, none⟩ = some (.int .u64 x.base) := HT10.out.cell 1
        have t2 : w10.cell? ⟨w4.heap.size, 2, none⟩ = some (.slice a8 (x.entries.length + b.entries.length) c8) := HT10.out.cell 2
        go_wp2
        refine bodyPost_ret (v := .tuple #[.agg #[.int .u64 x.epoch, .int .u64 x.base, .slice a8 (x.entries.length + b.entries.length) c8], .int .i64 0]) (by simp [results, Tryz.results107, go_sem, World.cell?_setCell_far, r0, r1, r2]) rfl ?_
        rw [hC.out]
        refine ⟨a8, _, c8, _, _, rfl, fun _ => ⟨rfl, rfl, by simp [joinB], ?_⟩, ?_⟩
        · refine rEntries.mono (rEntries.keep HX10.out fun q hq => ?_) fun q hq => ⟨by have := hq.1; omega, by have := hq.2; simpa using this⟩
          have := hq.1
          repeat rw [Below.heap_setCell _ _ _ _ (by dsimp only; omega)]
        · have hb9 := HI10.out.below
          clear hC
          exact ((hb9.setCell (by dsimp only; omega) _).setCell (by dsimp only; omega) _).setCell (by dsimp only; omega) _

    · have d2 : (x.epoch != b.epoch) = true := by simp [h2]
      have hC : Hid (joinC2 x b = 13) := hid (by unfold joinC2; rw [if_neg (by simp [hxR, hbR]), if_pos (.inr h2)])
      simp only [hC.out]
      clear hx hb h1 h2 hxR hbR hxf hbf fx mx fb mb
      go_enter Tryz.func107, Tryz.ntmps107
      go_wp2_with fail
      refine (HR.out _ HI0.out.below).mono ?_
      rintro r w1 ⟨rfl, hb1⟩
      have HI1 := hid (HI0.out.later hb1)
      have g0 : w1.cell? ⟨w.heap.size, 0, none⟩ = some (.int .u64 x.epoch) := HI1.out.g.cell 0
      have g1 : w1.cell? ⟨w.heap.size, 1, none⟩ = some (.int .u64 x.base) := HI1.out.g.cell 1
      have g2 : w1.cell? ⟨w.heap.size, 2, none⟩ = some (.slice ax x.entries.length cx) := HI1.out.g.cell 2
      have x0 : w1.cell? ⟨w.heap.size + 1, 0, none⟩ = some (.int .u64 b.epoch) := HI1.out.x.cell 0
      have x1 : w1.cell? ⟨w.heap.size + 1, 1, none⟩ = some (.int .u64 b.base) := HI1.out.x.cell 1
      have x2 : w1.cell? ⟨w.heap.size + 1, 2, none⟩ = some (.slice ab b.entries.length cb) := HI1.out.x.cell 2
      have r0 : w1.cell? ⟨w.heap.size + 1 + 1, 0, none⟩ = some (.int .u64 0) := HI1.out.r.cell 0
      have r1 : w1.cell? ⟨w.heap.size + 1 + 1, 1, none⟩ = some (.int .u64 0) := HI1.out.r.cell 1
      have r2 : w1.cell? ⟨w.heap.size + 1 + 1, 2, none⟩ = some (.slice none 0 0) := HI1.out.r.cell 2
      have f0 : w1.frozen? ⟨w.heap.size + 1 + 1, 0, none⟩ = false := HI1.out.r.free 0
      have f1 : w1.frozen? ⟨w.heap.size + 1 + 1, 1, none⟩ = false := HI1.out.r.free 1
      have f2 : w1.frozen? ⟨w.heap.size + 1 + 1, 2, none⟩ = false := HI1.out.r.free 2
      have hrz : w.heap.size + 1 + 1 < w1.heap.size := HI1.out.r.lt
      go_wp2_with fail
      refine (HRb.out _ HI1.out.below).mono ?_
      rintro r w2 ⟨rfl, hb2⟩
      have HI2 := hid (HI1.out.later hb2)
      clear g0 g1 g2 x0 x1 x2 r0 r1 r2 f0 f1 f2 hrz
      clear hb1 hb2
      have g0 : w2.cell? ⟨w.heap.size, 0, none⟩ = some (.int .u64 x.epoch) := HI2.out.g.cell 0
      have g1 : w2.cell? ⟨w.heap.size, 1, none⟩ = some (.int .u64 x.base) := HI2.out.g.cell 1
      have g2 : w2.cell? ⟨w.heap.size, 2, none⟩ = some (.slice ax x.entries.length cx) := HI2.out.g.cell 2
      have x0 : w2.cell? ⟨w.heap.size + 1, 0, none⟩ = some (.int .u64 b.epoch) := HI2.out.x.cell 0
      have x1 : w2.cell? ⟨w.heap.size + 1, 1, none⟩ = some (.int .u64 b.base) := HI2.out.x.cell 1
      have x2 : w2.cell? ⟨w.heap.size + 1, 2, none⟩ = some (.slice ab b.entries.length cb) := HI2.out.x.cell 2
      have r0 : w2.cell? ⟨w.heap.size + 1 + 1, 0, none⟩ = some (.int .u64 0) := HI2.out.r.cell 0
      have r1 : w2.cell? ⟨w.heap.size + 1 + 1, 1, none⟩ = some (.int .u64 0) := HI2.out.r.cell 1
      have r2 : w2.cell? ⟨w.heap.size + 1 + 1, 2, none⟩ = some (.slice none 0 0) := HI2.out.r.cell 2
      have f0 : w2.frozen? ⟨w.heap.size + 1 + 1, 0, none⟩ = false := HI2.out.r.free 0
      have f1 : w2.frozen? ⟨w.heap.size + 1 + 1, 1, none⟩ = false := HI2.out.r.free 1
      have f2 : w2.frozen? ⟨w.heap.size + 1 + 1, 2, none⟩ = false := HI2.out.r.free 2
      have hrz : w.heap.size + 1 + 1 < w2.heap.size := HI2.out.r.lt
      have G0 := fun s : Later w2 => s.cell g0
      have G1 := fun s : Later w2 => s.cell g1
      have G2 := fun s : Later w2 => s.cell g2
      have X0 := fun s : Later w2 => s.cell x0
      have X1 := fun s : Later w2 => s.cell x1
      have X2 := fun s : Later w2 => s.cell x2
      have HE := hid (fun s : Later w2 => HEN.out s.at_)
      go_wp2_with fail
      refine wp_region_later (by kernel_rfl) (by kernel_rfl) ?_
      repeat (go_big_quiet_step ((go_at_call 24; exact later_of (HE.out _))))
      refine wpQuiet_nil ?_
      rintro W3 ⟨⟨W3', hb3⟩, rfl⟩
      have HI3 := hid (HI2.out.later hb3)
      clear G0 G1 G2 X0 X1 X2 HE hb3
      clear g0 g1 g2 x0 x1 x2 r0 r1 r2 f0 f1 f2 hrz
      have g0 : W3.cell? ⟨w.heap.size, 0, none⟩ = some (.int .u64 x.epoch) := HI3.out.g.cell 0
      have g1 : W3.cell? ⟨w.heap.size, 1, none⟩ = some (.int .u64 x.base) := HI3.out.g.cell 1
      have g2 : W3.cell? ⟨w.heap.size, 2, none⟩ = some (.slice ax x.entries.length cx) := HI3.out.g.cell 2
      have x0 : W3.cell? ⟨w.heap.size + 1, 0, none⟩ = some (.int .u64 b.epoch) := HI3.out.x.cell 0
      have x1 : W3.cell? ⟨w.heap.size + 1, 1, none⟩ = some (.int .u64 b.base) := HI3.out.x.cell 1
      have x2 : W3.cell? ⟨w.heap.size + 1, 2, none⟩ = some (.slice ab b.entries.length cb) := HI3.out.x.cell 2
      have r0 : W3.cell? ⟨w.heap.size + 1 + 1, 0, none⟩ = some (.int .u64 0) := HI3.out.r.cell 0
      have r1 : W3.cell? ⟨w.heap.size + 1 + 1, 1, none⟩ = some (.int .u64 0) := HI3.out.r.cell 1
      have r2 : W3.cell? ⟨w.heap.size + 1 + 1, 2, none⟩ = some (.slice none 0 0) := HI3.out.r.cell 2
      have f0 : W3.frozen? ⟨w.heap.size + 1 + 1, 0, none⟩ = false := HI3.out.r.free 0
      have f1 : W3.frozen? ⟨w.heap.size + 1 + 1, 1, none⟩ = false := HI3.out.r.free 1
      have f2 : W3.frozen? ⟨w.heap.size + 1 + 1, 2, none⟩ = false := HI3.out.r.free 2
      have hrz : w.heap.size + 1 + 1 < W3.heap.size := HI3.out.r.lt
      go_wp2
      refine bodyPost_ret (v := .tuple #[.agg #[.int .u64 0, .int .u64 0, .slice none 0 0], .int .i64 13]) (by simp [results, Tryz.results107, go_sem, World.cell?_setCell_far, r0, r1, r2]) rfl ⟨none, 0, 0, 0, 0, rfl, fun h => absurd h (by decide), ?_⟩
      have hb9 := HI3.out.below
      clear hC
      exact ((hb9.setCell (by dsimp only; omega) _).setCell (by dsimp only; omega) _).setCell (by dsimp only; omega) _

  · have d1 : (x.base + (x.entries.length : Int) != b.base) = true := by simp [h1]
    have hC : Hid (joinC2 x b = 13) := hid (by unfold joinC2; rw [if_neg (by simp [hxR, hbR]), if_pos (.inl h1)])
    simp only [hC.out]
    clear hx hb h1 hxR hbR hxf hbf fx mx fb mb
    go_enter Tryz.func107, Tryz.ntmps107
    go_wp2_with fail
    refine (HR.out _ HI0.out.below).mono ?_
    rintro r w1 ⟨rfl, hb1⟩
    have HI1 := hid (HI0.out.later hb1)
    have g0 : w1.cell? ⟨w.heap.size, 0, none⟩ = some (.int .u64 x.epoch) := HI1.out.g.cell 0
    have g1 : w1.cell? ⟨w.heap.size, 1, none⟩ = some (.int .u64 x.base) := HI1.out.g.cell 1
    have g2 : w1.cell? ⟨w.heap.size, 2, none⟩ = some (.slice ax x.entries.length cx) := HI1.out.g.cell 2
    have x0 : w1.cell? ⟨w.heap.size + 1, 0, none⟩ = some (.int .u64 b.epoch) := HI1.out.x.cell 0
    have x1 : w1.cell? ⟨w.heap.size + 1, 1, none⟩ = some (.int .u64 b.base) := HI1.out.x.cell 1
    have x2 : w1.cell? ⟨w.heap.size + 1, 2, none⟩ = some (.slice ab b.entries.length cb) := HI1.out.x.cell 2
    have r0 : w1.cell? ⟨w.heap.size + 1 + 1, 0, none⟩ = some (.int .u64 0) := HI1.out.r.cell 0
    have r1 : w1.cell? ⟨w.heap.size + 1 + 1, 1, none⟩ = some (.int .u64 0) := HI1.out.r.cell 1
    have r2 : w1.cell? ⟨w.heap.size + 1 + 1, 2, none⟩ = some (.slice none 0 0) := HI1.out.r.cell 2
    have f0 : w1.frozen? ⟨w.heap.size + 1 + 1, 0, none⟩ = false := HI1.out.r.free 0
    have f1 : w1.frozen? ⟨w.heap.size + 1 + 1, 1, none⟩ = false := HI1.out.r.free 1
    have f2 : w1.frozen? ⟨w.heap.size + 1 + 1, 2, none⟩ = false := HI1.out.r.free 2
    have hrz : w.heap.size + 1 + 1 < w1.heap.size := HI1.out.r.lt
    go_wp2_with fail
    refine (HRb.out _ HI1.out.below).mono ?_
    rintro r w2 ⟨rfl, hb2⟩
    have HI2 := hid (HI1.out.later hb2)
    clear g0 g1 g2 x0 x1 x2 r0 r1 r2 f0 f1 f2 hrz
    clear hb1 hb2
    have g0 : w2.cell? ⟨w.heap.size, 0, none⟩ = some (.int .u64 x.epoch) := HI2.out.g.cell 0
    have g1 : w2.cell? ⟨w.heap.size, 1, none⟩ = some (.int .u64 x.base) := HI2.out.g.cell 1
    have g2 : w2.cell? ⟨w.heap.size, 2, none⟩ = some (.slice ax x.entries.length cx) := HI2.out.g.cell 2
    have x0 : w2.cell? ⟨w.heap.size + 1, 0, none⟩ = some (.int .u64 b.epoch) := HI2.out.x.cell 0
    have x1 : w2.cell? ⟨w.heap.size + 1, 1, none⟩ = some (.int .u64 b.base) := HI2.out.x.cell 1
    have x2 : w2.cell? ⟨w.heap.size + 1, 2, none⟩ = some (.slice ab b.entries.length cb) := HI2.out.x.cell 2
    have r0 : w2.cell? ⟨w.heap.size + 1 + 1, 0, none⟩ = some (.int .u64 0) := HI2.out.r.cell 0
    have r1 : w2.cell? ⟨w.heap.size + 1 + 1, 1, none⟩ = some (.int .u64 0) := HI2.out.r.cell 1
    have r2 : w2.cell? ⟨w.heap.size + 1 + 1, 2, none⟩ = some (.slice none 0 0) := HI2.out.r.cell 2
    have f0 : w2.frozen? ⟨w.heap.size + 1 + 1, 0, none⟩ = false := HI2.out.r.free 0
    have f1 : w2.frozen? ⟨w.heap.size + 1 + 1, 1, none⟩ = false := HI2.out.r.free 1
    have f2 : w2.frozen? ⟨w.heap.size + 1 + 1, 2, none⟩ = false := HI2.out.r.free 2
    have hrz : w.heap.size + 1 + 1 < w2.heap.size := HI2.out.r.lt
    have G0 := fun s : Later w2 => s.cell g0
    have G1 := fun s : Later w2 => s.cell g1
    have G2 := fun s : Later w2 => s.cell g2
    have X0 := fun s : Later w2 => s.cell x0
    have X1 := fun s : Later w2 => s.cell x1
    have X2 := fun s : Later w2 => s.cell x2
    have HE := hid (fun s : Later w2 => HEN.out s.at_)
    go_wp2_with fail
    refine wp_region_later (by kernel_rfl) (by kernel_rfl) ?_
    repeat (go_big_quiet_step ((go_at_call 24; exact later_of (HE.out _))))
    refine wpQuiet_nil ?_
    rintro W3 ⟨⟨W3', hb3⟩, rfl⟩
    have HI3 := hid (HI2.out.later hb3)
    clear G0 G1 G2 X0 X1 X2 HE hb3
    clear g0 g1 g2 x0 x1 x2 r0 r1 r2 f0 f1 f2 hrz
    have g0 : W3.cell? ⟨w.heap.size, 0, none⟩ = some (.int .u64 x.epoch) := HI3.out.g.cell 0
    have g1 : W3.cell? ⟨w.heap.size, 1, none⟩ = some (.int .u64 x.base) := HI3.out.g.cell 1
    have g2 : W3.cell? ⟨w.heap.size, 2, none⟩ = some (.slice ax x.entries.length cx) := HI3.out.g.cell 2
    have x0 : W3.cell? ⟨w.heap.size + 1, 0, none⟩ = some (.int .u64 b.epoch) := HI3.out.x.cell 0
    have x1 : W3.cell? ⟨w.heap.size + 1, 1, none⟩ = some (.int .u64 b.base) := HI3.out.x.cell 1
    have x2 : W3.cell? ⟨w.heap.size + 1, 2, none⟩ = some (.slice ab b.entries.length cb) := HI3.out.x.cell 2
    have r0 : W3.cell? ⟨w.heap.size + 1 + 1, 0, none⟩ = some (.int .u64 0) := HI3.out.r.cell 0
    have r1 : W3.cell? ⟨w.heap.size + 1 + 1, 1, none⟩ = some (.int .u64 0) := HI3.out.r.cell 1
    have r2 : W3.cell? ⟨w.heap.size + 1 + 1, 2, none⟩ = some (.slice none 0 0) := HI3.out.r.cell 2
    have f0 : W3.frozen? ⟨w.heap.size + 1 + 1, 0, none⟩ = false := HI3.out.r.free 0
    have f1 : W3.frozen? ⟨w.heap.size + 1 + 1, 1, none⟩ = false := HI3.out.r.free 1
    have f2 : W3.frozen? ⟨w.heap.size + 1 + 1, 2, none⟩ = false := HI3.out.r.free 2
    have hrz : w.heap.size + 1 + 1 < W3.heap.size := HI3.out.r.lt
    go_wp2
    refine bodyPost_ret (v := .tuple #[.agg #[.int .u64 0, .int .u64 0, .slice none 0 0], .int .i64 13]) (by simp [results, Tryz.results107, go_sem, World.cell?_setCell_far, r0, r1, r2]) rfl ⟨none, 0, 0, 0, 0, rfl, fun h => absurd h (by decide), ?_⟩
    have hb9 := HI3.out.below
    clear hC
    exact ((hb9.setCell (by dsimp only; omega) _).setCell (by dsimp only; omega) _).setCell (by dsimp only; omega) _

end Go.Proofs.YtkipiefcnjfdjaaGreat
