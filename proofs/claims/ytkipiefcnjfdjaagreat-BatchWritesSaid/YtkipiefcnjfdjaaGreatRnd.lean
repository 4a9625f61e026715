/- A drawn region in a round of a loop over an iterator: one walk serves every order. No program. -/
import Derived.Test.YtkipiefcnjfdjaaGreatTch
import Derived.Sort.QuietThIn
import Derived.Sort.BigQuietIn
import Derived.Sort.QuietTacIn
import Derived.RangeFuncNested
import Derived.RangeFuncBound
import Derived.RangeFuncCalls
import Derived.RangeFuncLeaves
import Derived.Shelf.Abstract
import Derived.Shelf.RegionOpen
import Derived.OwnWalkIn
import Derived.TacticsInMore
import Derived.LoopNIn
import Derived.LoopIn
import Derived.Maps.OwnIn
import Derived.StillTailTactics
namespace Go.Bs
open Go.RowKit
set_option linter.unusedVariables false

def noDefer (o : Oper) : Bool := match o.op with | .defer _ => false | _ => true
section
variable {F : Fence} {n : Nat} {P : Program} {ops : Array Oper} {md : Region.Mode} {C : World → Prop}
theorem noDefer_spec {o : Oper} (h : noDefer o = true) : ∀ c, o.op ≠ .defer c := fun c e => by
  unfold noDefer at h
  rw [e] at h
  cases h
theorem wpIn_of_quiet_r {o : Oper} {a : Act} {K : Act → Prop} {K' : Act → World → Prop} {Q' : Exit → Act → World → Prop} {w : World} (hd : noDefer o = true) (hw : C w) (h : ∀ a w', C w' → K a → K' a w')
    (ha : o.askedIn F P a C) (hh : o.quietIn F n P a C K) : o.wpIn F n P a w K' Q' := by
  obtain ⟨v, h1, h2⟩ := hh
  have h3 := h1 w hw
  unfold Oper.quietAtIn at h3
  unfold Oper.wpIn
  refine ⟨ha w hw, ?_⟩
  rw [Oper.semAt_eq _ _ _ (noDefer_spec hd)]
  generalize (execOp a.eval o).run P w = r at *
  cases r with
  | ok x w' =>
    cases x <;> simp only [Oper.quietUponIn] at h3 <;> simp only [Oper.uponIn]
    case value u =>
      obtain ⟨e1, e2⟩ := h3
      rw [e1, e2]
      exact h _ _ hw h2
    case skip =>
      obtain ⟨e1, e2⟩ := h3
      rw [e1, ← e2]
      exact h _ _ hw h2
    case enter f args =>
      obtain ⟨e1, hd, hc⟩ := h3
      rw [e1]
      exact ⟨hd, hc.mono fun e w'' ⟨he, hw''⟩ => by subst he; exact h _ _ hw'' h2⟩
  | halt x w' => simp only [Oper.quietUponIn] at h3
theorem wpOpIn_of_qOpIn_r {i : Nat} {a : Act} {K : Act → Prop} {K' : Act → World → Prop} {Q' : Exit → Act → World → Prop} {w : World} (hd : ops.all noDefer = true) (hC : C w) (h : ∀ a w', C w' → K a → K' a w')
    (hh : qOpIn F n P ops C i K a) : wpOpIn F n P ops Q' i K' a w := by
  unfold qOpIn at hh
  unfold wpOpIn
  split
  · rename_i ho; simp only [ho] at hh; exact h _ _ hC hh
  · rename_i o ho
    have hdo : noDefer o = true := by
      have := Array.all_eq_true'.1 hd o (Array.mem_of_getElem? ho)
      exact this
    simp only [ho] at hh
    obtain ⟨ha, hh⟩ := hh
    split
    · rename_i hw; simp only [hw, if_true] at hh; exact wpIn_of_quiet_r hdo hC h ha hh
    · rename_i hw; simp only [hw] at hh; exact ⟨ha w hC, h _ _ hC hh⟩
theorem wpAnyIn_of_quiet_r {Q : Act → Prop} {Q' : Exit → Act → World → Prop} (hd : ops.all noDefer = true) (hQ : ∀ a w, C w → Q a → Q' .normal a w) : ∀ (fuel : Nat) (listed : Array Bool) (a : Act) (w : World), C w →
    wpAnyQIn F n P md ops C Q fuel listed a → wpAnyIn F n P md ops Q' fuel listed a w
  | 0, _, _, _, hw, h => ⟨h.1, hQ _ _ hw h.2⟩
  | fuel + 1, _, _, _, hw, h => ⟨fun h0 => hQ _ _ hw (h.1 h0), fun i hi => wpOpIn_of_qOpIn_r hd hw (fun a' w' hw' => wpAnyIn_of_quiet_r hd hQ fuel _ a' w' hw') (h.2 i hi)⟩
theorem wpIn_region_round {id : Nat} {Q : Exit → Act → World → Prop} {a : Act} {w : World} {l : List Oper} (C : World → Prop) (hm : P.follows .mixedOrders = true) (hd : l.toArray.all noDefer = true) (hB : Region.lexB .any l.toArray = true) (hC : C w.drew)
    (h : wpQuietIn F n P l.toArray C (fun a' => ∀ w', C w' → Q .normal a' w') l a) : (Code.region id l.toArray true).wpIn F n P Q a w := by
  simp only [Region.lexB, Bool.and_eq_true] at hB
  refine wpIn_region_any hm (wpAnyIn_of_quiet_r (Q := fun a' => ∀ w', C w' → Q .normal a' w') hd (fun _ w' hw' h => h w' hw') _ _ _ _ hC ?_)
  have := wpAnyQIn_lex (F := F) (n := n) (C := C) (md := .any) hB.1 l 0 (Array.replicate l.toArray.size false) a (by simp) (by simpa using hB.2) h
  simpa using this
theorem wpIn_region_rlater {id : Nat} {Q : Exit → Act → World → Prop} {a : Act} {w : World} {l : List Oper} (hm : P.follows .mixedOrders = true) (hd : l.toArray.all noDefer = true) (hB : Region.lexB .any l.toArray = true)
    (h : wpQuietIn F n P l.toArray (fun w' => ∃ s : Later w, w' = s.at_) (fun a' => ∀ w', (∃ s : Later w, w' = s.at_) → Q .normal a' w') l a) : (Code.region id l.toArray true).wpIn F n P Q a w :=
  wpIn_region_round _ hm hd hB ⟨⟨w.drew, (Below.refl _ _).drew⟩, rfl⟩ h
theorem wpIn_region_rdrawn {id : Nat} {Q : Exit → Act → World → Prop} {a : Act} {w : World} {l : List Oper} (hm : P.follows .mixedOrders = true) (hd : l.toArray.all noDefer = true) (hB : Region.lexB .any l.toArray = true)
    (h : wpQuietIn F n P l.toArray (fun w' => ∃ n, w' = w.drewN n) (fun a' => ∀ w', (∃ n, w' = w.drewN n) → Q .normal a' w') l a) : (Code.region id l.toArray true).wpIn F n P Q a w :=
  wpIn_region_round _ hm hd hB ⟨1, rfl⟩ h
theorem wide_d {p : Prop} (h : Fence.wide.depth.isSome = true) : p := by simp [Fence.wide] at h
theorem wide_dr {p : Prop} {l : Nat} (h : (Fence.wide.inRound l).depth.isSome = true) : p := by simp [Fence.wide] at h
theorem laterIn_of {n : Nat} {f : FuncId} {args : Array Value} {w : World} {s : Later w} {v : Value} {l : Nat}
    (h : Calls P f args s.at_ fun e w' => e = .returned v ∧ Below s.at_.heap.size s.at_ w') : CallsIn (Fence.wide.inRound l) n P f args s.at_ fun e w'' => e = .returned v ∧ ∃ s' : Later w, w'' = s'.at_ :=
  CallsIn.inRound l (callsIn_wide.2 (later_of h))
theorem laterIn_of0 {n : Nat} {f : FuncId} {args : Array Value} {w : World} {s : Later w} {v : Value}
    (h : Calls P f args s.at_ fun e w' => e = .returned v ∧ Below s.at_.heap.size s.at_ w') : CallsIn Fence.wide n P f args s.at_ fun e w'' => e = .returned v ∧ ∃ s' : Later w, w'' = s'.at_ :=
  callsIn_wide.2 (later_of h)
theorem wp_region_still_drew {id : Nat} {Q : Exit → Act → World → Prop} {a : Act} {w : World} {l : List Oper} (n : Nat) (hm : P.follows .mixedOrders = true) (hB : Region.lexTailB .any l.toArray n = true)
    (h : wpStill P l.toArray w.drew (fun a' => wpList P l.toArray Q (l.drop n) a' w.drew) (l.take n) a) : (Code.region id l.toArray true).wp P Q a w := wp_region_still_tail n hm hB h
theorem wpIn_world {c : Code} {Q : Exit → Act → World → Prop} {a : Act} {w : World} (G : World → Prop) (hG : G w) (h : ∀ W, G W → c.wpIn F n P Q a W) : c.wpIn F n P Q a w := h w hG
theorem keepsFrom_tch {B : Nat} {G : Nat → Prop} {W W' : World} (h : Tch G W W') (hF : ∀ q, G q → q < B) : KeepsFrom B W W' :=
  ⟨h.size, fun k o hB hk _ => (h.block k (Array.getElem?_eq_some_iff.1 hk).1 (fun e => by have := hF k e; omega)).trans hk⟩
end
end Go.Bs
