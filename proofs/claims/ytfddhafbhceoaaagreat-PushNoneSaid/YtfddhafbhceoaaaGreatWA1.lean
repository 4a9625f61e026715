/- Needed by pushNone_walk, part 1: texts put together by shake.py; no condition. -/
import Derived.WalkKit
import Derived.WalkLawsBesides
import Derived.WalkSpells
import Derived.Outline
import Derived.BigQuiet
import Derived.Deep.QuietTactic
import Derived.ProofKit
import Derived.OpenShut
import Derived.Deep.Slices
import Derived.Lib.SmallJoins
import Derived.Test.YtfddhafbhceoaaaGreatRows
import Derived.Deep.AppendLies
import Derived.Laws.IdiomStrings
import Derived.Laws.BytesArg
import Derived.Maps.AppendAt
import Derived.Maps.OwnOps
import Derived.Maps.Views
import Derived.Sort.QuietThIn
import Derived.Sort.BigQuietIn
import Derived.Sort.QuietTacIn
import Derived.RangeFuncNested
import Derived.RangeFuncBound
import Derived.RangeFuncCalls
import Derived.RangeFuncLeaves
import Derived.Shelf.Abstract
import Derived.Shelf.RegionOpen
import Derived.OwnWalkIn
import Derived.TacticsInMore
import Derived.LoopNIn
import Derived.LoopIn
import Derived.Maps.OwnIn
import Derived.StillTailTactics
namespace Go.Bs
open Go.RowKit

theorem hid {p : Prop} (h : p) : Hid p := h

theorem below_alloc {a W : World} (h : Below a.heap.size a W) (o : Obj) : Below a.heap.size a (W.alloc o) := h.alloc h.size _
theorem below_drewN {B : Nat} {a w : World} (h : Below B a w) (n : Nat) : Below B a (w.drewN n) := ⟨h.os, h.tape, h.output, h.size, h.block⟩
theorem below_then {a W w' : World} (hb : Below W.heap.size W w') (h : Below a.heap.size a W) : Below a.heap.size a w' := h.trans (hb.mono h.size)

/-- Block g holds just these cells, none of them frozen. -/
def Blk (w : World) (g : Nat) (t : TypeId) (cs : Array Value) : Prop := w.heap[g]? = some (.cells cs t (0, 0))
section
variable {w w' : World} {g : Nat} {t : TypeId} {cs : Array Value}
theorem Blk.lt (h : Blk w g t cs) : g < w.heap.size := by
  rcases Nat.lt_or_ge g w.heap.size with h' | h'
  · exact h'
  · unfold Blk at h; rw [Array.getElem?_eq_none h'] at h; cases h
theorem Blk.cell (h : Blk w g t cs) (i : Nat) : w.cell? ⟨g, i, none⟩ = cs[i]? := by unfold Blk at h; simp [World.cell?, h]
theorem Blk.free (h : Blk w g t cs) (i : Nat) : w.frozen? ⟨g, i, none⟩ = false := by unfold Blk at h; simp [World.frozen?, h]
theorem Blk.new (w : World) (t : TypeId) (cs : Array Value) : Blk (w.alloc (.cells cs t)) w.heap.size t cs := by
  unfold Blk; show (w.heap.push _)[w.heap.size]? = _; simp
theorem Blk.newAt (w : World) (t : TypeId) (cs : Array Value) {g : Nat} (h : g = w.heap.size) : Blk (w.alloc (.cells cs t)) g t cs := h ▸ Blk.new w t cs
theorem Blk.new1 (w : World) (o : Obj) (t : TypeId) (cs : Array Value) : Blk ((w.alloc o).alloc (.cells cs t)) (w.heap.size + 1) t cs := by
  have := Blk.new (w.alloc o) t cs
  simpa using this
theorem Blk.alloc (h : Blk w g t cs) (o : Obj) : Blk (w.alloc o) g t cs := (Below.heap_alloc w o g h.lt).trans h
theorem Blk.drewN (h : Blk w g t cs) (n : Nat) : Blk (w.drewN n) g t cs := h
theorem Blk.drew (h : Blk w g t cs) : Blk w.drew g t cs := h
theorem Blk.set (h : Blk w g t cs) (i : Nat) (u : Value) : Blk (w.setCell ⟨g, i, none⟩ u) g t (cs.setIfInBounds i u) := by
  unfold Blk at h ⊢
  simp [World.setCell, Array.getElem?_modify, h]
theorem Blk.far (h : Blk w g t cs) {p : Addr} (hp : g ≠ p.block) (u : Value) : Blk (w.setCell p u) g t cs := (Below.heap_setCell w p u g hp).trans h
theorem Blk.below {B : Nat} (h : Blk w g t cs) (hb : Below B w w') (hg : g < B) : Blk w' g t cs := (hb.block g hg).trans h
theorem Blk.later (h : Blk w g t cs) (hb : Below w.heap.size w w') : Blk w' g t cs := h.below hb h.lt
theorem Blk.grown {row : Option Nat} (h : Blk w g t cs) (hb : w.grownBy w' row) (hg : some g ≠ row) : Blk w' g t cs := (hb.block g h.lt hg).trans h
end

/-- A world that comes later than w: what was there is as it was. -/
structure Later (w : World) where
  at_ : World
  below : Below w.heap.size w at_

instance (w : World) : Inhabited (Later w) := ⟨⟨w, Below.refl _ _⟩⟩

theorem Later.cell {w : World} {b o : Nat} {v : Value} (h : w.cell? ⟨b, o, none⟩ = some v) (s : Later w) : s.at_.cell? ⟨b, o, none⟩ = some v := by
  have hlt := World.block_lt_of_cell? w _ h
  rw [s.below.cell (p := ⟨b, o, none⟩) hlt]; exact h

section
variable {P : Program}

/-- The world under a name of its own, with what is known of it. -/
theorem wp_world {c : Code} {Q : Exit → Act → World → Prop} {a : Act} {w : World} (F : World → Prop) (hF : F w) (h : ∀ W, F W → c.wp P Q a W) : c.wp P Q a w := h w hF

theorem wp_region_later {id : Nat} {Q : Exit → Act → World → Prop} {a : Act} {w : World} {l : List Oper} (hm : P.follows .mixedOrders = true) (hB : Region.lexB .any l.toArray = true)
    (h : wpQuiet P l.toArray (fun w' => ∃ s : Later w, w' = s.at_) (fun a' => ∀ w', (∃ s : Later w, w' = s.at_) → Q .normal a' w') l a) : (Code.region id l.toArray true).wp P Q a w :=
  wp_region_quiet (C := fun w' => ∃ s : Later w, w' = s.at_) hm hB ⟨⟨w.drew, (Below.refl _ _).drew⟩, rfl⟩ (by simpa using h)

theorem later_of {f : FuncId} {args : Array Value} {w : World} {s : Later w} {v : Value}
    (h : Calls P f args s.at_ fun e w' => e = .returned v ∧ Below s.at_.heap.size s.at_ w') : Calls P f args s.at_ fun e w'' => e = .returned v ∧ ∃ s' : Later w, w'' = s'.at_ :=
  h.mono fun _ w' ⟨he, hb⟩ => ⟨he, ⟨w', s.below.trans (hb.mono s.below.size)⟩, rfl⟩

theorem later_same {f : FuncId} {args : Array Value} {w : World} {s : Later w} {v : Value}
    (h : Calls P f args s.at_ fun e w' => e = .returned v ∧ s.at_ = w') : Calls P f args s.at_ fun e w'' => e = .returned v ∧ ∃ s' : Later w, w'' = s'.at_ :=
  h.mono fun _ _ ⟨he, hb⟩ => ⟨he, s, hb.symm⟩
end
end Go.Bs
namespace Go.Bs
open Go.RowKit
set_option linter.unusedVariables false

/-- What cells stand for, looking at blocks of S alone. -/
structure Rp (α : Type) where
  r : (Nat → Prop) → World → List Value → α → Prop
  keep : ∀ {S : Nat → Prop} {w w' : World} {cs : List Value} {x : α}, r S w cs x → (∀ b, S b → w'.heap[b]? = w.heap[b]?) → r S w' cs x
  mono : ∀ {S S' : Nat → Prop} {w : World} {cs : List Value} {x : α}, r S w cs x → (∀ b, S b → S' b) → r S' w cs x

def rInt (k : IntKind) : Rp Int := ⟨fun _ _ cs n => cs = [.int k n] ∧ (Lit.int k n).wf = true, fun h _ => h, fun h _ => h⟩
def rByte : Rp UInt8 := ⟨fun _ _ cs b => cs = [.int .u8 (b.toNat : Int)], fun h _ => h, fun h _ => h⟩
/-- Two things, one behind the other. -/
def rPair {α β : Type} (A : Rp α) (B : Rp β) : Rp (α × β) :=
  ⟨fun S w cs x => ∃ c d, cs = c ++ d ∧ A.r S w c x.1 ∧ B.r S w d x.2,
   fun ⟨c, d, h, h1, h2⟩ hk => ⟨c, d, h, A.keep h1 hk, B.keep h2 hk⟩, fun ⟨c, d, h, h1, h2⟩ hk => ⟨c, d, h, A.mono h1 hk, B.mono h2 hk⟩⟩
/-- By another name. -/
def rBy {α β : Type} (f : α → β) (B : Rp β) : Rp α := ⟨fun S w cs x => B.r S w cs (f x), fun h hk => B.keep h hk, fun h hk => B.mono h hk⟩
/-- A row of things of sz cells each, from a place on. -/
def RRow {α : Type} (sz : Nat) (A : Rp α) (S : Nat → Prop) (w : World) (b off : Nat) (xs : List α) : Prop :=
  S b ∧ ∀ i x, xs[i]? = some x → ∃ cs : List Value, cs.length = sz ∧ (∀ j v, cs[j]? = some v → w.cell? ⟨b, off + i * sz + j, none⟩ = some v) ∧ A.r S w cs x
/-- A slice, nil or not. -/
def rSl {α : Type} (sz : Nat) (A : Rp α) : Rp (List α) :=
  ⟨fun S w cs xs => ∃ a c, cs = [.slice a xs.length c] ∧ xs.length ≤ c ∧ c ≤ maxLen ∧ (xs = [] ∨ ∃ b off, a = some ⟨b, off, none⟩ ∧ RRow sz A S w b off xs),
   fun ⟨a, c, h, h1, h2, h3⟩ hk => ⟨a, c, h, h1, h2, h3.imp id fun ⟨b, off, e, hb, hr⟩ => ⟨b, off, e, hb, fun i x hi =>
     let ⟨cs, hl, hc, hA⟩ := hr i x hi
     ⟨cs, hl, fun j v hj => (World.cell?_of_block (a := ⟨b, off + i * sz + j, none⟩) (hk b hb)).trans (hc j v hj), A.keep hA hk⟩⟩⟩,
   fun ⟨a, c, h, h1, h2, h3⟩ hk => ⟨a, c, h, h1, h2, h3.imp id fun ⟨b, off, e, hb, hr⟩ => ⟨b, off, e, hk b hb, fun i x hi =>
     let ⟨cs, hl, hc, hA⟩ := hr i x hi
     ⟨cs, hl, hc, A.mono hA hk⟩⟩⟩⟩

theorem rSl_mk {α : Type} {sz : Nat} {A : Rp α} {S : Nat → Prop} {w : World} {cs : List Value} {xs : List α} {a : Option Addr} {c : Nat} (h : cs = [.slice a xs.length c]) (h1 : xs.length ≤ c) (h2 : c ≤ maxLen)
    (h3 : xs = [] ∨ ∃ b off, a = some ⟨b, off, none⟩ ∧ RRow sz A S w b off xs) : (rSl sz A).r S w cs xs := ⟨a, c, h, h1, h2, h3⟩
theorem choose_list {α : Type} (n : Nat) (Q : Nat → α → Prop) (h : ∀ i, i < n → ∃ y, Q i y) : ∃ ys : List α, ys.length = n ∧ ∀ i y, ys[i]? = some y → Q i y := by
  induction n with
  | zero => exact ⟨[], rfl, fun i y h => by simp at h⟩
  | succ n ih =>
    obtain ⟨ys, h1, h2⟩ := ih fun i hi => h i (by omega)
    obtain ⟨y, hy⟩ := h n (by omega)
    refine ⟨ys ++ [y], by simp [h1], fun i z hz => ?_⟩
    rcases Nat.lt_or_ge i ys.length with hi | hi
    · rw [List.getElem?_append_left hi] at hz
      exact h2 i z hz
    · rw [List.getElem?_append_right hi] at hz
      have h0 : i - ys.length = 0 := by
        rcases Nat.eq_zero_or_pos (i - ys.length) with h | h
        · exact h
        · rw [List.getElem?_eq_none (by simp; omega)] at hz; cases hz
      rw [h0] at hz
      simp at hz
      subst hz
      have : i = n := by omega
      subst this
      exact hy

/-- Behind 'Below'. -/
theorem Rp.below {α : Type} (A : Rp α) {w w' : World} {B : Nat} {cs : List Value} {x : α} (h : A.r (· < B) w cs x) (hb : Below B w w') : A.r (· < B) w' cs x := A.keep h hb.block

section
variable {P : Program}
/-- What can be read as a thing of type t stands for plain data. -/
def Opens (P : Program) (t : TypeId) {α : Type} (A : Rp α) : Prop :=
  ∀ {H : Type} (enc : TypeId × Value → H) (w : World) (fuel : Nat) (cs : List Value) (x : DataW H × List MemPlace), DataW.trod enc P w 0 (fun _ => true) true fuel t cs = some x → ∃ y, A.r (· < w.heap.size) w cs y

theorem opens_byte {t : TypeId} (ht : P.underlying t = some (.int .u8)) : Opens P t rByte := fun enc w fuel cs x h => by
  obtain ⟨n, rfl, _, hw⟩ := DataW.trod_int ht h
  have := bounds_u8 hw
  refine ⟨UInt8.ofNat n.toNat, ?_⟩
  show _ = _
  have e : ((UInt8.ofNat n.toNat).toNat : Int) = n := by
    simp [UInt8.toNat_ofNat']; omega
  rw [e]

theorem add_none {a : Addr} {b : Nat} {n : Nat} {v : Value} {w : World} (h : w.cell? (a.add n) = some v) : n = 0 → a.spot = none := by
  rintro rfl
  unfold Addr.add at h
  simp only [if_true] at h
  unfold World.cell? at h
  cases hs : a.spot with
  | none => rfl
  | some s =>
    rw [hs] at h
    split at h <;> simp at h

theorem opens_slice {t e : TypeId} {sz : Nat} {α : Type} {A : Rp α} (ht : P.underlying t = some (.slice e)) (hs : P.cellsOf e = sz) (hsz : 0 < sz) (hA : Opens P e A) : Opens P t (rSl sz A) := fun enc w fuel cs x h => by
  rcases Deep.open_slice ht h with ⟨rfl, rfl⟩ | ⟨a, len, cap, m, n, D, Pl, rfl, hb, hl, hm, hmm, _, hel⟩
  · exact ⟨[], rSl_mk rfl (Nat.le_refl _) (Nat.zero_le _) (.inl rfl)⟩
  · have hlm : len ≤ m := by simp at hmm; omega
    rw [hs] at hel
    have hy : ∀ i, i < len → ∃ y, ∃ cs' : List Value, cs'.length = sz ∧ (∀ j v, cs'[j]? = some v → w.cell? ((a.add (i * sz)).add j) = some v) ∧ A.r (· < w.heap.size) w cs' y := by
      intro i hi
      obtain ⟨cs', hc, ht'⟩ := hel i (by omega)
      obtain ⟨y, hy⟩ := hA enc w n cs' _ ht'
      obtain ⟨_, h1, h2⟩ := World.cells?_some hc
      exact ⟨y, cs', h1, fun j v hj => by
        have hj' : j < sz := by rw [← h1]; exact (List.getElem?_eq_some_iff.1 hj).1
        rw [h2 j hj']; exact hj, hy⟩
    by_cases h0 : len = 0
    · subst h0
      exact ⟨[], rSl_mk rfl (Nat.zero_le _) hm (.inl rfl)⟩
    have hspot : a.spot = none := by
      obtain ⟨y, cs', h1, h2, _⟩ := hy 0 (by omega)
      obtain ⟨v, hv⟩ : ∃ v, cs'[0]? = some v := ⟨cs'[0], List.getElem?_eq_getElem (by omega)⟩
      have := h2 0 v hv
      have e1 : (a.add (0 * sz)).add 0 = a.add 0 := by simp [Addr.add]
      rw [e1] at this
      exact add_none (b := 0) this rfl
    obtain ⟨ys, hys⟩ : ∃ ys : List α, ys.length = len ∧ ∀ i y, ys[i]? = some y → ∃ cs' : List Value, cs'.length = sz ∧ (∀ j v, cs'[j]? = some v → w.cell? ((a.add (i * sz)).add j) = some v) ∧ A.r (· < w.heap.size) w cs' y := by
      exact choose_list len _ hy
    obtain ⟨hlen, hys⟩ := hys
    refine ⟨ys, rSl_mk (a := some a) (c := cap) (by rw [hlen]) (by omega) hm (.inr ⟨a.block, a.off, by cases a; simp at hspot; rw [hspot], ?_, ?_⟩)⟩
    · obtain ⟨y, cs', h1, h2, _⟩ := hy 0 (by omega)
      obtain ⟨v, hv⟩ : ∃ v, cs'[0]? = some v := ⟨cs'[0], List.getElem?_eq_getElem (by omega)⟩
      have := World.block_lt_of_cell? w _ (h2 0 v hv)
      simpa [Addr.add] using this
    · intro i y hiy
      obtain ⟨cs', h1, h2, h3⟩ := hys i y hiy
      refine ⟨cs', h1, fun j v hj => ?_, h3⟩
      rw [← h2 j v hj]
      congr 1
      cases a with
      | mk ab ao asp =>
        simp at hspot
        subst hspot
        unfold Addr.add
        split <;> split <;> simp_all

end
end Go.Bs
namespace Go.Bs
open Go.RowKit
set_option linter.unusedVariables false

structure Link where
  stream : Int
  backs : List Int
structure Entry where
  links : List Link
  data : List UInt8
structure Batch where
  epoch : Int
  base : Int
  entries : List Entry
structure Seg where
  epoch : Int
  batches : List Batch

def rU64s : Rp (List Int) := rSl 1 (rInt .u64)
def rBytes : Rp (List UInt8) := rSl 1 rByte
def rLink : Rp Link := rBy (fun l => (l.stream, l.backs)) (rPair (rInt .u64) rU64s)
def rLinks : Rp (List Link) := rSl 2 rLink
def rEntry : Rp Entry := rBy (fun e => (e.links, e.data)) (rPair rLinks rBytes)
def rEntries : Rp (List Entry) := rSl 2 rEntry
def rBatch : Rp Batch := rBy (fun b => (b.epoch, b.base, b.entries)) (rPair (rInt .u64) (rPair (rInt .u64) rEntries))
section
variable {S : Nat → Prop} {w : World} {cs : List Value}

/-- A value that stands for a list: its form, its length. -/
theorem sl_form {α : Type} {sz : Nat} {A : Rp α} {xs : List α} (h : (rSl sz A).r S w cs xs) : ∃ a c, cs = [.slice a xs.length c] ∧ (rSl sz A).r S w [.slice a xs.length c] xs ∧ xs.length ≤ 9223372036854775807 := by
  obtain ⟨a, c, rfl, h1, h2, h3⟩ := h
  exact ⟨a, c, rfl, ⟨a, c, rfl, h1, h2, h3⟩, by unfold maxLen at h2; omega⟩
theorem sl_len {α : Type} {sz : Nat} {A : Rp α} {xs : List α} {a : Option Addr} {n c : Nat} (h : (rSl sz A).r S w [.slice a n c] xs) : n = xs.length ∧ xs.length ≤ 9223372036854775807 ∧ n ≤ c ∧ c ≤ 9223372036854775807 := by
  obtain ⟨a', c', e, h1, h2, h3⟩ := h
  simp at e
  obtain ⟨_, rfl, rfl⟩ := e
  exact ⟨rfl, by unfold maxLen at h2; omega, h1, h2⟩
/-- One of its elements. -/
theorem sl_at {α : Type} {sz : Nat} {A : Rp α} {xs : List α} {a : Option Addr} {n c : Nat} (h : (rSl sz A).r S w [.slice a n c] xs) {i : Nat} (hi : i < xs.length) :
    ∃ b off, a = some ⟨b, off, none⟩ ∧ S b ∧ ∃ cs : List Value, cs.length = sz ∧ (∀ j v, cs[j]? = some v → w.cell? ⟨b, off + i * sz + j, none⟩ = some v) ∧ A.r S w cs xs[i] := by
  obtain ⟨a', c', e, h1, h2, h3⟩ := h
  simp at e
  obtain ⟨rfl, rfl, rfl⟩ := e
  rcases h3 with rfl | ⟨b, off, rfl, hS, hr⟩
  · simp at hi
  · obtain ⟨cs, hl, hc, hA⟩ := hr i xs[i] (List.getElem?_eq_getElem hi)
    exact ⟨b, off, rfl, hS, cs, hl, hc, hA⟩

theorem link_cells {x : Link} (h : rLink.r S w cs x) : ∃ a c, cs = [.int .u64 x.stream, .slice a x.backs.length c] ∧ (0 ≤ x.stream ∧ x.stream ≤ 18446744073709551615) ∧ rU64s.r S w [.slice a x.backs.length c] x.backs := by
  obtain ⟨c1, c2, rfl, ⟨rfl, hw⟩, h2⟩ := h
  obtain ⟨a, c, rfl, h3, _⟩ := sl_form h2
  exact ⟨a, c, rfl, bounds_u64 hw, h3⟩
theorem batch_cells {x : Batch} (h : rBatch.r S w cs x) : ∃ a c, cs = [.int .u64 x.epoch, .int .u64 x.base, .slice a x.entries.length c] ∧ (0 ≤ x.epoch ∧ x.epoch ≤ 18446744073709551615) ∧ (0 ≤ x.base ∧ x.base ≤ 18446744073709551615) ∧ rEntries.r S w [.slice a x.entries.length c] x.entries := by
  obtain ⟨c1, c2, rfl, ⟨rfl, hw⟩, d1, d2, rfl, ⟨rfl, hw2⟩, h2⟩ := h
  obtain ⟨a, c, rfl, h3, _⟩ := sl_form h2
  exact ⟨a, c, rfl, bounds_u64 hw, bounds_u64 hw2, h3⟩
theorem u64_wf {n : Int} (h : 0 ≤ n ∧ n ≤ 18446744073709551615) : (Lit.int .u64 n).wf = true := by
  simp [Lit.wf, IntKind.min, IntKind.max, IntKind.signed, IntKind.bits]; omega
theorem link_mk {x : Link} {a : Option Addr} {n c : Nat} (h0 : 0 ≤ x.stream ∧ x.stream ≤ 18446744073709551615) (h : rU64s.r S w [.slice a n c] x.backs) : rLink.r S w [.int .u64 x.stream, .slice a n c] x := ⟨[_], [_], rfl, ⟨rfl, u64_wf h0⟩, h⟩
theorem batch_mk {x : Batch} {v : Value} (h0 : 0 ≤ x.epoch ∧ x.epoch ≤ 18446744073709551615) (h1 : 0 ≤ x.base ∧ x.base ≤ 18446744073709551615) (h : rEntries.r S w [v] x.entries) : rBatch.r S w [.int .u64 x.epoch, .int .u64 x.base, v] x :=
  ⟨[_], [_, _], rfl, ⟨rfl, u64_wf h0⟩, [_], [_], rfl, ⟨rfl, u64_wf h1⟩, h⟩
/-- Elements by their cells. -/
theorem u64_at {xs : List Int} {a : Option Addr} {n c : Nat} (h : rU64s.r S w [.slice a n c] xs) {i : Nat} (hi : i < xs.length) : ∃ b off, a = some ⟨b, off, none⟩ ∧ S b ∧ w.cell? ⟨b, off + i, none⟩ = some (.int .u64 xs[i]) ∧ 0 ≤ xs[i] ∧ xs[i] ≤ 18446744073709551615 := by
  obtain ⟨b, off, e, hS, cs, _, hc, rfl, hw⟩ := sl_at h hi
  have := hc 0 _ rfl
  rw [Nat.mul_one, Nat.add_zero] at this
  exact ⟨b, off, e, hS, this, bounds_u64 hw⟩
theorem byte_at {xs : List UInt8} {a : Option Addr} {n c : Nat} (h : rBytes.r S w [.slice a n c] xs) {i : Nat} (hi : i < xs.length) : ∃ b off, a = some ⟨b, off, none⟩ ∧ S b ∧ w.cell? ⟨b, off + i, none⟩ = some (.int .u8 (xs[i].toNat : Int)) := by
  obtain ⟨b, off, e, hS, cs, _, hc, rfl⟩ := sl_at h hi
  have := hc 0 _ rfl
  rw [Nat.mul_one, Nat.add_zero] at this
  exact ⟨b, off, e, hS, this⟩
theorem link_at {xs : List Link} {a : Option Addr} {n c : Nat} (h : rLinks.r S w [.slice a n c] xs) {i : Nat} (hi : i < xs.length) : ∃ b off, a = some ⟨b, off, none⟩ ∧ S b ∧ ∃ a' c', w.cell? ⟨b, off + i * 2, none⟩ = some (.int .u64 xs[i].stream) ∧ w.cell? ⟨b, off + i * 2 + 1, none⟩ = some (.slice a' xs[i].backs.length c') ∧
    (0 ≤ xs[i].stream ∧ xs[i].stream ≤ 18446744073709551615) ∧ rU64s.r S w [.slice a' xs[i].backs.length c'] xs[i].backs := by
  obtain ⟨b, off, e, hS, cs, _, hc, hA⟩ := sl_at h hi
  obtain ⟨a', c', rfl, h1, h2⟩ := link_cells hA
  exact ⟨b, off, e, hS, a', c', hc 0 _ rfl, hc 1 _ rfl, h1, h2⟩
end

/-- What keeps a reading: nothing below has turned. -/
theorem lift {α : Type} {A : Rp α} {w w' : World} {cs : List Value} {x : α} (h : A.r (· < w.heap.size) w cs x) (hb : Below w.heap.size w w') : A.r (· < w'.heap.size) w' cs x :=
  A.mono (A.below h hb) fun b hlt => Nat.lt_of_lt_of_le hlt hb.size

/-! What is well-formed. -/
def epR (e : Int) : Bool := decide (1 ≤ e ∧ e < 4611686018427387904)
def poR (e : Int) : Bool := decide (e < 4611686018427387904)
def fallsB : Int → List Int → Bool
  | _, [] => true
  | b, x :: l => decide (x < b) && fallsB x l
def risesB : List Int → Bool
  | [] => true
  | [_] => true
  | x :: y :: l => decide (x < y) && risesB (y :: l)
def linkR (pos : Int) (x : Link) : Bool := decide (x.backs.length ≤ 4) && fallsB pos x.backs
def linksR (pos : Int) (l : List Link) : Bool := decide (l.length ≤ 16) && (risesB (l.map Link.stream) && l.all (linkR pos))
def fitsR (base : Int) (n : Nat) : Bool := decide (1 ≤ n ∧ n ≤ 16 ∧ base < 4611686018427387904 ∧ base + n ≤ 4611686018427387904)
end Go.Bs
namespace Go.Proofs.YtfddhafbhceoaaaGreat
open Go.RowKit Go.Bs
set_option linter.unusedVariables false
set_option linter.unusedSimpArgs false

set_option maxHeartbeats 400000 in
theorem epoch_right (e : Int) (w : World) : Calls Tryz.prog 142 #[.int .u64 e] w fun r w' => r = .returned (.bool (epR e)) ∧ w = w' := by
  by_cases h1 : 1 ≤ e
  · by_cases h2 : e < 4611686018427387904
    · have : epR e = true := by simp [epR, h1, h2]
      rw [this]
      have d1 : decide (1 ≤ e) = true := by simpa using h1
      have d2 : decide (e < 4611686018427387904) = true := by simpa using h2
      clear this h1 h2
      go_enter Tryz.func142, Tryz.ntmps142
      go_wp2
      go_ret
      exact ⟨rfl, rfl⟩
    · have : epR e = false := by simp [epR, h2]
      rw [this]
      have d1 : decide (1 ≤ e) = true := by simpa using h1
      have d2 : decide (e < 4611686018427387904) = false := by simpa using h2
      clear this h1 h2
      go_enter Tryz.func142, Tryz.ntmps142
      go_wp2
      go_ret
      exact ⟨rfl, rfl⟩
  · have : epR e = false := by simp [epR, h1]
    rw [this]
    have d1 : decide (1 ≤ e) = false := by simpa using h1
    clear this h1
    go_enter Tryz.func142, Tryz.ntmps142
    go_wp2
    go_ret
    exact ⟨rfl, rfl⟩

set_option maxHeartbeats 400000 in
theorem epoch_pos (e : Int) (w : World) : Calls Tryz.prog 256 #[.int .u64 e] w fun r w' => r = .returned (.bool (poR e)) ∧ w = w' := by
  go_enter Tryz.func256, Tryz.ntmps256
  go_wp2
  go_ret
  exact ⟨rfl, rfl⟩

theorem infoU : (Tryz.prog.info? 36).map (fun i => (i.zero, i.size, i.bytes)) = some (some (.int .u64 0), 1, 8) := by kernel_rfl

def stepsL : Int → List Int → List Int
  | _, [] => []
  | b, x :: l => (b - x - 1) :: stepsL x l
/-- The number ahead of place k. -/
def ahead (b : Int) (l : List Int) (k : Nat) : Int := if k = 0 then b else l.getD (k - 1) 0
theorem ahead_succ (b : Int) (l : List Int) (k : Nat) (h : k < l.length) : ahead b l (k + 1) = l[k] := by
  unfold ahead; rw [if_neg (by omega)]; simp [h]

/-- What delta.Steps hands back. -/
def StepsRet (below : Int) (l : List Int) (w : World) (e : Ending) (w' : World) : Prop :=
  ∃ v, e = .returned (.tuple #[v, .bool (fallsB below l)]) ∧ rU64s.r (· < w'.heap.size) w' [v] (if fallsB below l then stepsL below l else []) ∧ Below w.heap.size w w'

/-- An owned row of numbers reads as a list. -/
theorem own_u64s {w : World} {base : Nat} {e : TypeId} {v : Value} {xs : List Int} (h : w.ownsRow base e 1 v xs.length (xs.map (Value.int .u64))) (hb : ∀ x ∈ xs, 0 ≤ x ∧ x ≤ 18446744073709551615) (hm : xs.length ≤ maxLen) : rU64s.r (· < w.heap.size) w [v] xs := by
  rcases h.2 with ⟨rfl, h0⟩ | ⟨g, cap, cur, rfl, hbg, hg, hn, hc, hcur, hx⟩
  · have : xs = [] := List.eq_nil_of_length_eq_zero h0
    subst this
    exact rSl_mk rfl (Nat.le_refl _) (Nat.zero_le _) (.inl rfl)
  · refine rSl_mk rfl hn hc (.inr ⟨g, 0, rfl, Blk.lt hg, fun i x hi => ⟨[.int .u64 x], rfl, fun j v hj => ?_, rfl, u64_wf (hb x (List.mem_of_getElem? hi))⟩⟩)
    have hj0 : j = 0 := by
      rcases j with _ | j
      · rfl
      · simp at hj
    subst hj0
    simp at hj
    subst hj
    have hi' : i < xs.length := (List.getElem?_eq_some_iff.1 hi).1
    rw [Nat.zero_add, Nat.mul_one, Nat.add_zero, Blk.cell hg i]
    have e1 : cur[i]? = (cur.toList.take (xs.length * 1))[i]? := by
      rw [List.getElem?_take, if_pos (by omega)]; simp
    rw [e1, hx, List.getElem?_map, hi]; rfl

set_option maxHeartbeats 1600000 in
theorem steps_any (below : Int) (l : List Int) (a : Option Addr) (n c : Nat) (w : World) (hb0 : 0 ≤ below ∧ below ≤ 18446744073709551615) (hl : rU64s.r (· < w.heap.size) w [.slice a n c] l) (hlen : l.length ≤ 1000000000000) :
    Calls Tryz.prog 356 #[.int .u64 below, .slice a n c] w (StepsRet below l w) := by
  obtain ⟨rfl, hm, _, _⟩ := sl_len hl
  obtain ⟨i0, hi, hz0, hz1, hz2⟩ := info_parts infoU
  have HL := hid hl; clear hl
  go_enter Tryz.func356, Tryz.ntmps356
  go_wp2
  go_loopw [0, 6, 11] (fun b v i wr => ∃ k : Nat, k ≤ l.length ∧ i = .int .i64 k ∧ b = .int .u64 (ahead below l k) ∧ 0 ≤ ahead below l k ∧ ahead below l k ≤ 18446744073709551615 ∧ Hid (fallsB below l = fallsB (ahead below l k) (l.drop k)) ∧
      (∃ xs : List Int, Hid (xs.length = k ∧ (∀ x ∈ xs, 0 ≤ x ∧ x ≤ 18446744073709551615) ∧ stepsL below l = xs ++ stepsL (ahead below l k) (l.drop k)) ∧ wr.ownsRow w.heap.size 36 1 v k (xs.map (Value.int .u64))) ∧ Below w.heap.size w wr) (fun _ _ i _ => l.length - (intOf i).toNat)
  case atStart => exact ⟨0, Nat.zero_le _, rfl, rfl, hb0.1, hb0.2, hid rfl, ⟨[], hid ⟨rfl, by simp, rfl⟩, ⟨rfl, .inl ⟨rfl, rfl⟩⟩⟩, Below.refl _ _⟩
  case round =>
    obtain ⟨k, hk, rfl, rfl, ha0, ha1, hf, ⟨xs, hxs, hown⟩, hb⟩ := hrel
    by_cases hlt : k < l.length
    · obtain ⟨b, o, hA, hbb, hc, hx0, hx1⟩ := u64_at HL.out hlt
      subst hA
      have q := (hb.cell (p := ⟨b, o + k, none⟩) hbb).trans hc
      clear hc
      have hd := hid (List.drop_eq_getElem_cons hlt)
      have hsu := hid (ahead_succ below l k hlt)
      generalize hlk : l[k] = x at *
      clear hlk
      generalize ahead below l k = p at *
      by_cases hge : p ≤ x
      · have hff : Hid (fallsB below l = false) := by
          rw [hf.out, hd.out]; exact hid (by simp [fallsB]; omega)
        go_wp2
        go_ret2
        exact ⟨.slice none 0 0, by rw [hff.out]; rfl, by rw [hff.out]; exact rSl_mk rfl (Nat.le_refl _) (Nat.zero_le _) (.inl rfl), hb⟩
      · have hbs := hb.size
        have w1 : 0 ≤ p - x := by omega
        have w2 : 0 ≤ p - x - 1 := by omega
        go_wp2_with (at_builtin; refine wpList_append_lies _ rfl _ _ _ rfl w.heap.size 36 i0 (.int .u64 0) 1 8 Tryz.underlying37 hi hz0 hz1 hz2 rfl (by decide) _ k _ rfl (hown.alloc _) ⟨wr.heap.size, 0, none⟩ 1 1 [.int .u64 (p - x - 1)] rfl rfl (World.news_of_block (Blk.new _ _ _)) (by simp [Value.oneCell']) (by decide) (by simp only [maxLen]; omega) (by omega) (by simp; omega) _ rfl ?_; intro g1 cap1 w1' hown1 hgrow1 hat1 hlt1)
        go_roundw
        case rel =>
          refine ⟨k + 1, by omega, by go_num, by rw [hsu.out], by rw [hsu.out]; exact hx0, by rw [hsu.out]; exact hx1, ?_, ⟨xs ++ [p - x - 1], ?_, ?_⟩, ?_⟩
          · rw [hf.out, hd.out, hsu.out]
            exact hid (by simp only [fallsB]; rw [decide_eq_true (by omega)]; rfl)
          · refine hid ⟨by simp [hxs.out.1], ?_, ?_⟩
            · intro y hy
              rw [List.mem_append, List.mem_singleton] at hy
              rcases hy with hy | rfl
              · exact hxs.out.2.1 y hy
              · omega
            · rw [hsu.out, hxs.out.2.2, hd.out]
              simp [stepsL]
          · rw [List.map_append]; exact hown1
          · refine Below.grown ?_ hgrow1 (by simp; omega) (fun g e => (hown.lt g e).1)
            exact hb.alloc hbs _
        case measure => simp [intOf]; omega
    · obtain rfl : k = l.length := by omega
      have hff : Hid (fallsB below l = true) := by
        rw [hf.out, List.drop_length]; exact hid rfl
      have hxl := hxs.out.1
      have hst : Hid (stepsL below l = xs) := hid (by rw [hxs.out.2.2, List.drop_length]; simp [stepsL])
      have hv : rU64s.r (· < wr.heap.size) wr [u6] xs := own_u64s (by rw [hxl]; exact hown) hxs.out.2.1 (by unfold maxLen; omega)
      have HV := hid hv; clear hv hxl
      go_wp2
      go_ret2
      exact ⟨u6, by rw [hff.out]; rfl, by rw [hff.out, if_pos rfl, hst.out]; exact HV.out, hb⟩

set_option maxHeartbeats 400000 in
theorem delta_falls (below : Int) (l : List Int) (a : Option Addr) (n c : Nat) (w : World) (hb0 : 0 ≤ below ∧ below ≤ 18446744073709551615) (hl : rU64s.r (· < w.heap.size) w [.slice a n c] l) (hlen : l.length ≤ 1000000000000) :
    Calls Tryz.prog 336 #[.int .u64 below, .slice a n c] w fun r w' => r = .returned (.bool (fallsB below l)) ∧ Below w.heap.size w w' := by
  have HL := hid hl; clear hl
  go_enter Tryz.func336, Tryz.ntmps336
  go_wp2_with fail
  refine (steps_any below l a n c _ hb0 HL.out hlen).mono ?_
  rintro e w1 ⟨v, rfl, _, hb1⟩
  go_wp2
  go_ret
  exact ⟨rfl, hb1⟩

end Go.Proofs.YtfddhafbhceoaaaGreat
namespace Go.Bs
open Go.RowKit
deriving instance DecidableEq for Link, Entry, Batch, Seg

theorem bytes_str {P : Program} {S : Nat → Prop} {w : World} {a : Option Addr} {n c : Nat} {l : List UInt8} (src dst e : TypeId) (hs : P.underlying src = some (.slice e)) (he : P.underlying e = some (.int .u8)) (hd : P.underlying dst = some .string)
    (h : rBytes.r S w [.slice a n c] l) : (convert src dst (.slice a l.length c)).run P w = .ok (.string ⟨l.toArray⟩) w := by
  obtain ⟨rfl, _, _, _⟩ := sl_len h
  rcases a with _ | ad
  · have h0 : l = [] := by
      rcases l with _ | ⟨x, l⟩
      · rfl
      · obtain ⟨b, off, e, _⟩ := byte_at h (i := 0) (by simp)
        cases e
    subst h0
    exact run_convert_bytes_nil w src e hs he _ _ dst hd
  · refine run_convert_bytes_back w src dst e ad c l hs he hd fun j hj => ?_
    obtain ⟨b, off, e, _, hc⟩ := byte_at h hj
    simp at e
    subst e
    rw [← hc]
    congr 1
    unfold Addr.add
    split
    · rename_i h0; subst h0; rfl
    · rfl
end Go.Bs
namespace Go.Proofs.YtfddhafbhceoaaaGreat
open Go.RowKit Go.Bs
set_option linter.unusedVariables false
set_option linter.unusedSimpArgs false


def risesAt (l : List Int) (k : Nat) : Bool := if k = 0 then risesB l else risesB (l.drop (k - 1))
theorem risesAt_one (l : List Int) : risesAt l 1 = risesAt l 0 := by simp [risesAt]
theorem risesAt_step (l : List Int) (m : Nat) (h : m + 1 < l.length) : risesAt l (m + 1) = (decide (l[m] < l[m + 1]) && risesAt l (m + 2)) := by
  have e1 : l.drop m = l[m] :: l[m + 1] :: l.drop (m + 2) := by
    rw [List.drop_eq_getElem_cons (show m < l.length by omega), List.drop_eq_getElem_cons h]
  have e2 : l.drop (m + 1) = l[m + 1] :: l.drop (m + 2) := List.drop_eq_getElem_cons h
  show risesB (l.drop m) = (_ && risesB (l.drop (m + 1)))
  rw [e1, e2]; rfl
theorem risesAt_end (l : List Int) : risesAt l l.length = true := by
  unfold risesAt
  split
  · rename_i h; rw [List.eq_nil_of_length_eq_zero h]; rfl
  · rename_i h
    have e : l.drop (l.length - 1) = [l[l.length - 1]] := by
      rw [List.drop_eq_getElem_cons (show l.length - 1 < l.length by omega), List.drop_of_length_le (by omega)]
    rw [e]; rfl

set_option maxHeartbeats 400000 in
theorem link_stream (s : Int) (v : Value) (h1 : v.oneCell' = true) (w : World) : Calls Tryz.prog 334 #[.agg #[.int .u64 s, v]] w fun r w' => r = .returned (.int .u64 s) ∧ Below w.heap.size w w' := by
  go_enter Tryz.func334, Tryz.ntmps334
  go_wp2
  go_ret
  exact ⟨rfl, by (repeat (first | exact Below.refl _ _ | assumption | (refine below_alloc ?_ _) | (refine Below.setCell ?_ (by first | omega | (simp; done) | (simp; omega)) _) | (refine Below.drew ?_) | (refine below_drewN ?_ _) | (refine below_then (by assumption) ?_)))⟩

set_option maxHeartbeats 1600000 in
theorem link_rises (l : List Link) (a : Option Addr) (n c : Nat) (w : World) (hl : rLinks.r (· < w.heap.size) w [.slice a n c] l) :
    Calls Tryz.prog 333 #[.slice a n c, .func (.func 334) #[] #[]] w fun r w' => r = .returned (.bool (risesB (l.map Link.stream))) ∧ Below w.heap.size w w' := by
  obtain ⟨rfl, hm, _, _⟩ := sl_len hl
  have HL := hid hl; clear hl
  go_enter Tryz.func333, Tryz.ntmps333
  go_wp2
  go_loopw [8] (fun i wr => ∃ k : Nat, k ≤ l.length ∧ i = .int .i64 k ∧ Hid (risesB (l.map Link.stream) = risesAt (l.map Link.stream) k) ∧ Below w.heap.size w wr) (fun i _ => l.length - (intOf i).toNat)
  case atStart => exact ⟨0, Nat.zero_le _, rfl, hid rfl, Below.refl _ _⟩
  case round =>
    obtain ⟨k, hk, rfl, hf, hb⟩ := hrel
    by_cases hlt : k < l.length
    · obtain ⟨b, o, hA, hbb, a1, c1, hc0, hc1, _, _⟩ := link_at HL.out hlt
      have hlt' : (k : Int) < (l.length : Int) := by omega
      rcases k with _ | m
      · have h1 := hid (risesAt_one (l.map Link.stream))
        go_wp2_with fail
        refine wp_region_later (by kernel_rfl) (by kernel_rfl) ?_
        repeat (go_big_quiet_step (fail))
        refine wpQuiet_nil ?_
        rintro W5 ⟨⟨W5', hb5⟩, rfl⟩
        go_wp2
        go_roundw
        case rel => exact ⟨1, by omega, rfl, hid (by rw [hf.out, h1.out]), below_then hb5 hb⟩
        case measure => simp [intOf]; omega
      · obtain ⟨b', o', hA', hbb', a2, c2, hd0, hd1, _, _⟩ := link_at HL.out (show m < l.length by omega)
        have hst := hid (risesAt_step (l.map Link.stream) m (by simpa using hlt))
        subst hA
        obtain ⟨rfl, rfl⟩ : b' = b ∧ o' = o := by simp at hA'; exact ⟨hA'.1.symm, hA'.2.symm⟩
        clear hA'
        have X0 := fun s : Later wr => s.cell ((hb.cell (p := ⟨b', o' + (m + 1) * 2, none⟩) hbb).trans hc0)
        have X1 := fun s : Later wr => s.cell ((hb.cell (p := ⟨b', o' + (m + 1) * 2 + 1, none⟩) hbb).trans hc1)
        have Y0 := fun s : Later wr => s.cell ((hb.cell (p := ⟨b', o' + m * 2, none⟩) hbb).trans hd0)
        have Y1 := fun s : Later wr => s.cell ((hb.cell (p := ⟨b', o' + m * 2 + 1, none⟩) hbb).trans hd1)
        clear hc0 hc1 hd0 hd1
        simp only [List.getElem_map] at hst
        generalize l[m + 1].stream = x at *
        generalize l[m].stream = y at *
        generalize l[m + 1].backs.length = n1 at *
        generalize l[m].backs.length = n2 at *
        rw [show ((m + 1 : Nat) : Int) = (m : Int) + 1 from by omega]
        have k1 : (0 : Int) < (m : Int) + 1 := by omega
        have k2 : (0 : Int) ≤ (m : Int) + 1 - 1 := by omega
        have k3 : (m : Int) + 1 < (l.length : Int) := by omega
        have k4 : (m : Int) < (l.length : Int) := by omega
        by_cases hge : x ≤ y
        · have d1 : decide (x ≤ y) = true := by simpa using hge
          have hff : Hid (risesB (l.map Link.stream) = false) := hid (by rw [hf.out, hst.out]; simp; omega)
          clear hge
          go_wp2_with fail
          refine wp_region_later (by kernel_rfl) (by kernel_rfl) ?_
          repeat (go_big_quiet_step (((go_at_call 334; exact later_of (link_stream _ _ rfl _)))))
          refine wpQuiet_nil ?_
          rintro W5 ⟨⟨W5', hb5⟩, rfl⟩
          go_wp2
          go_ret
          exact ⟨by rw [hff.out]; rfl, below_then hb5 hb⟩
        · have d1 : decide (x ≤ y) = false := by simpa using hge
          have hst' : Hid (risesAt (l.map Link.stream) (m + 1) = risesAt (l.map Link.stream) (m + 2)) := hid (by rw [hst.out, decide_eq_true (by omega)]; rfl)
          clear hge
          go_wp2_with fail
          refine wp_region_later (by kernel_rfl) (by kernel_rfl) ?_
          repeat (go_big_quiet_step (((go_at_call 334; exact later_of (link_stream _ _ rfl _)))))
          refine wpQuiet_nil ?_
          rintro W5 ⟨⟨W5', hb5⟩, rfl⟩
          go_wp2
          go_roundw
          case rel => exact ⟨m + 2, by omega, by go_num, hid (by rw [hf.out, hst'.out]), below_then hb5 hb⟩
          case measure => simp [intOf]; omega
    · obtain rfl : k = l.length := by omega
      have hff : Hid (risesB (l.map Link.stream) = true) := hid (by
        have := risesAt_end (l.map Link.stream)
        rw [List.length_map] at this
        rw [hf.out, this])
      go_wp2
      go_ret
      exact ⟨by rw [hff.out]; rfl, hb⟩

set_option maxHeartbeats 800000 in
theorem link_wrong (pos : Int) (x : Link) (a : Option Addr) (n c : Nat) (blk : Nat) (w : World) (hpos : 0 ≤ pos ∧ pos ≤ 18446744073709551615) (hx : rU64s.r (· < w.heap.size) w [.slice a n c] x.backs) (hlen : x.backs.length ≤ 1000000000000)
    (hc : w.cell? ⟨blk, 0, none⟩ = some (.int .u64 pos)) :
    Calls Tryz.prog 335 #[.agg #[.int .u64 x.stream, .slice a n c], .pointer (some ⟨blk, 0, none⟩)] w fun r w' => r = .returned (.bool (!linkR pos x)) ∧ Below w.heap.size w w' := by
  obtain ⟨rfl, hm, _, _⟩ := sl_len hx
  have hlt := World.block_lt_of_cell? w _ hc
  have X0 := (Later.mk _ ((Below.refl w.heap.size w).alloc (Nat.le_refl _) (.cells #[.int .u64 x.stream, .slice a x.backs.length c] 215))).cell hc
  by_cases h4 : 4 < x.backs.length
  · have hff : linkR pos x = false := by simp [linkR]; omega
    rw [hff]
    clear hff hx hc
    go_enter Tryz.func335, Tryz.ntmps335
    go_wp2
    go_ret
    exact ⟨rfl, by (repeat (first | exact Below.refl _ _ | assumption | (refine below_alloc ?_ _) | (refine Below.setCell ?_ (by first | omega | (simp; done) | (simp; omega)) _) | (refine Below.drew ?_) | (refine below_drewN ?_ _) | (refine below_then (by assumption) ?_)))⟩
  · have hff : linkR pos x = fallsB pos x.backs := by simp only [linkR]; rw [decide_eq_true (by omega)]; rfl
    rw [hff]
    have d4 : decide (4 < (x.backs.length : Int)) = false := by simp; omega
    have HX := hid hx; clear hx hff
    go_enter Tryz.func335, Tryz.ntmps335
    go_wp2_with fail
    refine (delta_falls pos x.backs _ _ _ _ hpos (lift HX.out (by (repeat (first | exact Below.refl _ _ | assumption | (refine below_alloc ?_ _) | (refine Below.setCell ?_ (by first | omega | (simp; done) | (simp; omega)) _) | (refine Below.drew ?_) | (refine below_drewN ?_ _) | (refine below_then (by assumption) ?_))))) hlen).mono ?_
    rintro e w1 ⟨rfl, hb1⟩
    go_wp2
    go_ret
    exact ⟨rfl, by (repeat (first | exact Below.refl _ _ | assumption | (refine below_alloc ?_ _) | (refine Below.setCell ?_ (by first | omega | (simp; done) | (simp; omega)) _) | (refine Below.drew ?_) | (refine below_drewN ?_ _) | (refine below_then (by assumption) ?_)))⟩

theorem takeWhile_step {α : Type} (p : α → Bool) (l : List α) (k : Nat) (h : k < l.length) : (l.drop k).takeWhile p = if p l[k] then l[k] :: (l.drop (k + 1)).takeWhile p else [] := by
  rw [List.drop_eq_getElem_cons h, List.takeWhile_cons]
theorem takeWhile_all {α : Type} (p : α → Bool) (l : List α) : decide ((l.takeWhile p).length = l.length) = l.all p := by
  induction l with
  | nil => rfl
  | cons x l ih =>
    rw [List.takeWhile_cons, List.all_cons]
    cases h : p x
    · simp
    · simp only [if_true, List.length_cons, Nat.add_right_cancel_iff, Bool.true_and]; exact ih

set_option maxHeartbeats 1600000 in
theorem link_place (pos : Int) (l : List Link) (a : Option Addr) (n c : Nat) (blk : Nat) (w : World) (hpos : 0 ≤ pos ∧ pos ≤ 18446744073709551615) (hl : rLinks.r (· < w.heap.size) w [.slice a n c] l) (hbk : ∀ x ∈ l, x.backs.length ≤ 1000000000000)
    (hc : w.cell? ⟨blk, 0, none⟩ = some (.int .u64 pos)) :
    Calls Tryz.prog 337 #[.slice a n c, .func (.func 335) #[] #[.pointer (some ⟨blk, 0, none⟩)]] w fun r w' => r = .returned (.int .i64 ((l.takeWhile (linkR pos)).length : Nat)) ∧ Below w.heap.size w w' := by
  obtain ⟨rfl, hm, _, _⟩ := sl_len hl
  have HL := hid hl; clear hl
  have HB := hid hbk; clear hbk
  have hblk := World.block_lt_of_cell? w _ hc
  have HC := hid hc; clear hc
  go_enter Tryz.func337, Tryz.ntmps337
  go_wp2
  go_loopw [9] (fun i wr => ∃ k : Nat, k ≤ l.length ∧ i = .int .i64 k ∧ Hid ((l.takeWhile (linkR pos)).length = k + ((l.drop k).takeWhile (linkR pos)).length) ∧ Below w.heap.size w wr) (fun i _ => l.length - (intOf i).toNat)
  case atStart => exact ⟨0, Nat.zero_le _, rfl, hid (by simp), Below.refl _ _⟩
  case round =>
    obtain ⟨k, hk, rfl, hf, hb⟩ := hrel
    by_cases hlt : k < l.length
    · obtain ⟨b, o, hA, hbb, a1, c1, hc0, hc1, _, hbs⟩ := link_at HL.out hlt
      subst hA
      have X0 := (hb.cell (p := ⟨b, o + k * 2, none⟩) hbb).trans hc0
      have X1 := (hb.cell (p := ⟨b, o + k * 2 + 1, none⟩) hbb).trans hc1
      clear hc0 hc1
      have hbl := HB.out _ (List.getElem_mem hlt)
      have hst := hid (takeWhile_step (linkR pos) l k hlt)
      have HBS := hid hbs; clear hbs
      generalize hlk : l[k] = x at *
      clear hlk
      have hzz := hb.size
      go_wp2_with fail
      refine (link_wrong pos x _ _ _ blk _ hpos (lift HBS.out (by (repeat (first | exact Below.refl _ _ | assumption | (refine below_alloc ?_ _) | (refine Below.setCell ?_ (by first | omega | (simp; done) | (simp; omega)) _) | (refine Below.drew ?_) | (refine below_drewN ?_ _) | (refine below_then (by assumption) ?_))))) hbl ?_).mono ?_
      · have := (Later.mk wr hb).cell HC.out
        exact (Later.mk _ ((Below.refl wr.heap.size wr).alloc (Nat.le_refl _) _)).cell this
      rintro e w1 ⟨rfl, hb1⟩
      have hb2 : Below w.heap.size w w1 := by (repeat (first | exact Below.refl _ _ | assumption | (refine below_alloc ?_ _) | (refine Below.setCell ?_ (by first | omega | (simp; done) | (simp; omega)) _) | (refine Below.drew ?_) | (refine below_drewN ?_ _) | (refine below_then (by assumption) ?_)))
      cases hr : linkR pos x
      · have hff : Hid ((l.takeWhile (linkR pos)).length = k) := hid (by rw [hf.out, hst.out, hr]; simp)
        clear hr
        go_wp2
        go_ret
        exact ⟨by rw [hff.out]; rfl, hb2⟩
      · have hff : Hid ((l.takeWhile (linkR pos)).length = (k + 1) + ((l.drop (k + 1)).takeWhile (linkR pos)).length) := hid (by rw [hf.out, hst.out, hr]; simp; omega)
        clear hr
        go_wp2
        go_roundw
        case rel => exact ⟨k + 1, by omega, by go_num, hff, hb2⟩
        case measure => simp [intOf]; omega
    · obtain rfl : k = l.length := by omega
      have hff : Hid ((l.takeWhile (linkR pos)).length = l.length) := hid (by rw [hf.out, List.drop_length]; simp)
      go_wp2
      go_ret
      exact ⟨by rw [hff.out]; rfl, hb⟩

set_option maxHeartbeats 800000 in
theorem link_right (pos : Int) (l : List Link) (a : Option Addr) (n c : Nat) (w : World) (hpos : 0 ≤ pos ∧ pos ≤ 18446744073709551615) (hl : rLinks.r (· < w.heap.size) w [.slice a n c] l) (hbk : ∀ x ∈ l, x.backs.length ≤ 1000000000000) :
    Calls Tryz.prog 277 #[.int .u64 pos, .slice a n c] w fun r w' => r = .returned (.bool (linksR pos l)) ∧ Below w.heap.size w w' := by
  obtain ⟨rfl, hm, _, _⟩ := sl_len hl
  have HL := hid hl; clear hl
  have HB := hid hbk; clear hbk
  by_cases h16 : 16 < l.length
  · have hff : Hid (linksR pos l = false) := hid (by simp [linksR]; omega)
    go_enter Tryz.func277, Tryz.ntmps277
    go_wp2
    go_ret
    exact ⟨by rw [hff.out]; rfl, by (repeat (first | exact Below.refl _ _ | assumption | (refine below_alloc ?_ _) | (refine Below.setCell ?_ (by first | omega | (simp; done) | (simp; omega)) _) | (refine Below.drew ?_) | (refine below_drewN ?_ _) | (refine below_then (by assumption) ?_)))⟩
  · have hff : Hid (linksR pos l = (risesB (l.map Link.stream) && l.all (linkR pos))) := hid (by simp only [linksR]; rw [decide_eq_true (by omega)]; rfl)
    have hta := hid (takeWhile_all (linkR pos) l)
    go_enter Tryz.func277, Tryz.ntmps277
    go_wp2_with fail
    refine (link_rises l _ _ _ _ (lift HL.out (by (repeat (first | exact Below.refl _ _ | assumption | (refine below_alloc ?_ _) | (refine Below.setCell ?_ (by first | omega | (simp; done) | (simp; omega)) _) | (refine Below.drew ?_) | (refine below_drewN ?_ _) | (refine below_then (by assumption) ?_)))))).mono ?_
    rintro e w1 ⟨rfl, hb1⟩
    have hb2 : Below w.heap.size w w1 := by (repeat (first | exact Below.refl _ _ | assumption | (refine below_alloc ?_ _) | (refine Below.setCell ?_ (by first | omega | (simp; done) | (simp; omega)) _) | (refine Below.drew ?_) | (refine below_drewN ?_ _) | (refine below_then (by assumption) ?_)))
    cases hr : risesB (l.map Link.stream)
    · have hf2 : Hid (linksR pos l = false) := hid (by rw [hff.out, hr]; rfl)
      clear hr
      go_wp2
      go_ret
      exact ⟨by rw [hf2.out]; rfl, hb2⟩
    · have hf2 : Hid (linksR pos l = l.all (linkR pos)) := hid (by rw [hff.out, hr]; rfl)
      clear hr
      go_wp2_with fail
      refine (link_place pos l _ _ _ w.heap.size _ hpos (lift HL.out hb2) HB.out ?_).mono ?_
      · exact (Later.mk w1 hb1).cell (by go_simp)
      rintro e w3 ⟨rfl, hb3⟩
      have hlt := (List.takeWhile_sublist (l := l) (linkR pos)).length_le
      generalize hg : (l.takeWhile (linkR pos)).length = t at *
      have hg' := hid hg; clear hg
      go_wp2
      go_ret
      refine ⟨?_, by (repeat (first | exact Below.refl _ _ | assumption | (refine below_alloc ?_ _) | (refine Below.setCell ?_ (by first | omega | (simp; done) | (simp; omega)) _) | (refine Below.drew ?_) | (refine below_drewN ?_ _) | (refine below_then (by assumption) ?_)))⟩
      rw [hf2.out, ← hta.out]
      by_cases h : t = l.length
      · subst h; simp
      · have : ¬ ((t : Int) = (l.length : Int)) := by omega
        simp [h, this]
end Go.Proofs.YtfddhafbhceoaaaGreat
namespace Go.Bs
open Go.RowKit
set_option linter.unusedVariables false
section
variable {P : Program} {w : World}

/-- What a slice value's cells are, up to its length. -/
def Src (w : World) (A : Option Addr) (m sz : Nat) (news : List Value) : Prop :=
  news.length = m * sz ∧ (m = 0 ∨ ∃ b o, A = some ⟨b, o, none⟩ ∧ ∀ j u, news[j]? = some u → w.cell? ⟨b, o + j, none⟩ = some u)

theorem run_append_nilsrc (base : Nat) (t ty e : TypeId) (i : TypeInfo) (size : Nat) (ht : P.underlying t = some (.slice e)) (hi : P.info? e = some i)
    (v : Value) (n : Nat) (xs : List Value) (hown : w.ownsRow base e size v n xs) (c : Nat) : (Builtin.append_ #[t, t] ty #[v, .slice none 0 c]).run P w = .ok v w := by
  rcases hown.2 with ⟨rfl, rfl⟩ | ⟨g, cap, cur, rfl, _, _, hnc, _⟩
  · simp [Builtin.append_, run_underlying ht, sizeOf, typeInfo, hi, Builtin.lenOf, Builtin.firstCells]
  · simp [Builtin.append_, run_underlying ht, sizeOf, typeInfo, hi, Builtin.lenOf, Builtin.firstCells, hnc, storeCells]

theorem add_plain (b o j : Nat) : (⟨b, o, none⟩ : Addr).add j = ⟨b, o + j, none⟩ := by
  unfold Addr.add
  split
  · rename_i h; subst h; rfl
  · rfl

theorem run_append_src (base : Nat) (t ty e : TypeId) (i : TypeInfo) (z : Value) (size bytes : Nat) (ht : P.underlying t = some (.slice e)) (hi : P.info? e = some i) (hz : i.zero = some z)
    (hsize : i.size = size) (hby : i.bytes = bytes) (hzs : z.cells.size = size) (hsz : 0 < size)
    (v : Value) (n : Nat) (xs : List Value) (hown : w.ownsRow base e size v n xs) (A : Option Addr) (m c : Nat) (news : List Value) (hs : Src w A m size news) (h1 : ∀ u ∈ news, u.oneCell' = true)
    (h63 : n + m ≤ maxLen) (hbytes : (n + m) * bytes ≤ 140737488355328) (hbase : base ≤ w.heap.size) :
    ∃ v' w', (Builtin.append_ #[t, t] ty #[v, .slice A m c]).run P w = .ok v' w' ∧ w'.ownsRow base e size v' (n + m) (xs ++ news) ∧ w.grownBy w' v.ownBlock ∧ (v'.ownBlock = v.ownBlock ∨ v'.ownBlock = some w.heap.size) := by
  obtain ⟨hl, hs⟩ := hs
  rcases A with _ | ad
  · have hm : m = 0 := by
      rcases hs with h | ⟨b, o, h, _⟩
      · exact h
      · cases h
    subst hm
    have hn : news = [] := List.eq_nil_of_length_eq_zero (by simpa using hl)
    subst hn
    exact ⟨v, w, run_append_nilsrc base t ty e i size ht hi v n xs hown c, by simpa using hown, World.grownBy.refl w _, .inl rfl⟩
  · have hcells : ∀ j u, news[j]? = some u → w.cell? (ad.add j) = some u := by
      intro j u hu
      rcases hs with h | ⟨b, o, h, hc⟩
      · subst h
        have hn : news = [] := List.eq_nil_of_length_eq_zero (by simpa using hl)
        subst hn
        simp at hu
      · injection h with h
        subst h
        rw [add_plain]; exact hc j u hu
    obtain ⟨v', w', hrun, h2, h3, _, h5⟩ := run_append_own_at (P := P) w base t ty e i z size bytes ht hi hz hsize hby hzs hsz v n xs hown ad m c news hl hcells h1 h63 hbytes hbase
    exact ⟨v', w', hrun, h2, h3, h5⟩

theorem wpList_append_src {ops : Array Oper} {rest : List Oper} {o : Oper} {a : Act} {Q : Exit → Act → World → Prop} (hgd : o.guard = none) (s x : Operand) (t : TypeId)
    (ho : o.op = .call { callee := .builtin .append, args := #[s, x], argTypes := #[t, t] })
    (base : Nat) (e : TypeId) (i : TypeInfo) (z : Value) (size bytes : Nat) (ht : P.underlying t = some (.slice e)) (hi : P.info? e = some i) (hz : i.zero = some z)
    (hsize : i.size = size) (hby : i.bytes = bytes) (hzs : z.cells.size = size) (hsz : 0 < size)
    (v : Value) (n : Nat) (xs : List Value) (hs : a.eval s = v) (hown : w.ownsRow base e size v n xs)
    (A : Option Addr) (m c : Nat) (news : List Value) (hx : a.eval x = .slice A m c) (hsrc : Src w A m size news) (h1 : ∀ u ∈ news, u.oneCell' = true)
    (h63 : n + m ≤ maxLen) (hbytes : (n + m) * bytes ≤ 140737488355328) (hbase : base ≤ w.heap.size)
    (h : ∀ v' w', w'.ownsRow base e size v' (n + m) (xs ++ news) → w.grownBy w' v.ownBlock → (v'.ownBlock = v.ownBlock ∨ v'.ownBlock = some w.heap.size) → wpList P ops Q rest (a.put o.dst v') w') : wpList P ops Q (o :: rest) a w :=
  wpList_plain hgd fun _ hK => by
    obtain ⟨v', w', hrun, h2, h3, h4⟩ := run_append_src (P := P) base t o.type e i z size bytes ht hi hz hsize hby hzs hsz v n xs hown A m c news hsrc h1 h63 hbytes hbase
    unfold Oper.wp execOp
    simp only [ho, resolve, invoke, builtin, Sem.run_bind, Sem.run_pure, Result.andThen_ok, List.map_toArray, List.map_cons, List.map_nil, hs, hx, hrun]
    exact hK _ _ (h v' w' h2 h3 h4)

def byteCells (l : List UInt8) : List Value := l.map fun b => .int .u8 (b.toNat : Int)
theorem byteCells_one (l : List UInt8) : ∀ u ∈ byteCells l, u.oneCell' = true := by
  intro u hu
  obtain ⟨b, _, rfl⟩ := List.mem_map.1 hu
  rfl
theorem src_bytes {S : Nat → Prop} {a : Option Addr} {n c : Nat} {l : List UInt8} (h : rBytes.r S w [.slice a n c] l) : Src w a l.length 1 (byteCells l) := by
  refine ⟨by simp [byteCells], ?_⟩
  rcases l with _ | ⟨x, l⟩
  · exact .inl rfl
  · right
    obtain ⟨b, o, e, _⟩ := byte_at h (i := 0) (by simp)
    refine ⟨b, o, e, fun j u hu => ?_⟩
    have hj : j < (x :: l).length := by
      have := (List.getElem?_eq_some_iff.1 hu).1
      simpa [byteCells] using this
    obtain ⟨b', o', e', _, hc⟩ := byte_at h hj
    rw [e] at e'
    simp at e'
    obtain ⟨rfl, rfl⟩ := e'
    have : u = .int .u8 (((x :: l)[j]).toNat : Int) := by
      simp only [byteCells, List.getElem?_map, List.getElem?_eq_getElem hj, Option.map_some, Option.some.injEq] at hu
      exact hu.symm
    rw [this]; exact hc

/-- An owned row of bytes reads as those bytes. -/
theorem own_bytes {base : Nat} {e : TypeId} {v : Value} {l : List UInt8} {n : Nat} (hn : n = l.length) (h : w.ownsRow base e 1 v n (byteCells l)) : rBytes.r (· < w.heap.size) w [v] l := by
  subst hn
  rcases h.2 with ⟨rfl, h0⟩ | ⟨g, cap, cur, rfl, hbg, hg, hn, hc, hcur, hx⟩
  · have : l = [] := List.eq_nil_of_length_eq_zero h0
    subst this
    exact rSl_mk rfl (Nat.le_refl _) (Nat.zero_le _) (.inl rfl)
  · refine rSl_mk rfl hn hc (.inr ⟨g, 0, rfl, Blk.lt hg, fun i x hi => ⟨[.int .u8 (x.toNat : Int)], rfl, fun j v hj => ?_, rfl⟩⟩)
    have hj0 : j = 0 := by
      rcases j with _ | j
      · rfl
      · simp at hj
    subst hj0
    simp at hj
    subst hj
    have hi' : i < l.length := (List.getElem?_eq_some_iff.1 hi).1
    rw [Nat.zero_add, Nat.mul_one, Nat.add_zero, Blk.cell hg i]
    have e1 : cur[i]? = (cur.toList.take (l.length * 1))[i]? := by
      rw [List.getElem?_take, if_pos (by omega)]; simp
    rw [e1, hx, byteCells, List.getElem?_map, hi]; rfl
end
end Go.Bs
namespace Go.Proofs.YtfddhafbhceoaaaGreat
open Go.RowKit Go.Bs
set_option linter.unusedVariables false
set_option linter.unusedSimpArgs false

theorem info8 : (Tryz.prog.info? 5).map (fun i => (i.zero, i.size, i.bytes)) = some (some (.int .u8 0), 1, 1) := by kernel_rfl


theorem sl_take {α : Type} {sz : Nat} {A : Rp α} {S : Nat → Prop} {w : World} {xs : List α} {a : Option Addr} {n c k : Nat} (h : (rSl sz A).r S w [.slice a n c] xs) (hk : k ≤ xs.length) : (rSl sz A).r S w [.slice a k c] (xs.take k) := by
  obtain ⟨a', c', e, h1, h2, h3⟩ := h
  simp at e
  obtain ⟨rfl, rfl, rfl⟩ := e
  have hl : (xs.take k).length = k := by simp; omega
  refine rSl_mk (by rw [hl]) (by omega) h2 ?_
  rcases h3 with rfl | ⟨b, off, rfl, hS, hr⟩
  · exact .inl (by simp)
  · refine .inr ⟨b, off, rfl, hS, fun i x hi => hr i x ?_⟩
    rw [List.getElem?_take] at hi
    split at hi
    · exact hi
    · cases hi

end Go.Proofs.YtfddhafbhceoaaaGreat
namespace Go.Bs
set_option linter.unusedVariables false
set_option linter.unusedSimpArgs false

/-- How many bytes from a place on are as those off bytes back, at most f. -/
def runLen (b : List UInt8) (off : Nat) : Nat → Nat → Nat
  | 0, _ => 0
  | f + 1, p => if p < b.length ∧ b[p]? = b[p - off]? then runLen b off f (p + 1) + 1 else 0
def mlen (b : List UInt8) (p off : Nat) : Nat := if p < b.length ∧ 1 ≤ off ∧ off ≤ p then runLen b off (b.length - p) p else 0

theorem runLen_le (b : List UInt8) (off : Nat) : ∀ f p, runLen b off f p ≤ f
  | 0, _ => Nat.le_refl _
  | f + 1, p => by
    unfold runLen
    split
    · have := runLen_le b off f (p + 1); omega
    · omega
theorem mlen_le (b : List UInt8) (p off : Nat) : mlen b p off ≤ b.length - p := by
  unfold mlen
  split
  · exact runLen_le ..
  · omega
/-- The bytes that are alike. -/
theorem runLen_same (b : List UInt8) (off : Nat) : ∀ f p k, k < runLen b off f p → p + k < b.length ∧ b[p + k]? = b[p + k - off]?
  | 0, _, k, h => by simp [runLen] at h
  | f + 1, p, k, h => by
    unfold runLen at h
    split at h
    · rename_i hc
      cases k with
      | zero => exact hc
      | succ k =>
        have := runLen_same b off f (p + 1) k (by omega)
        rw [show p + (k + 1) = p + 1 + k by omega]
        exact this
    · omega
theorem runLen_ge (b : List UInt8) (off : Nat) : ∀ f p k, k ≤ f → (∀ j, j < k → p + j < b.length ∧ b[p + j]? = b[p + j - off]?) → k ≤ runLen b off f p
  | _, _, 0, _, _ => Nat.zero_le _
  | 0, _, k + 1, h, _ => by omega
  | f + 1, p, k + 1, h, hs => by
    unfold runLen
    rw [if_pos (by simpa using hs 0 (by omega))]
    have := runLen_ge b off f (p + 1) k (by omega) fun j hj => by
      have := hs (j + 1) (by omega)
      rw [show p + (j + 1) = p + 1 + j by omega] at this
      exact this
    omega
theorem mlen_ge {b : List UInt8} {p off k : Nat} (h1 : 1 ≤ off) (h2 : off ≤ p) (hp : p < b.length) (h : ∀ j, j < k → p + j < b.length ∧ b[p + j]? = b[p + j - off]?) : k ≤ mlen b p off := by
  unfold mlen
  rw [if_pos ⟨hp, h1, h2⟩]
  refine runLen_ge _ _ _ _ _ ?_ h
  rcases Nat.eq_zero_or_pos k with rfl | h0
  · exact Nat.zero_le _
  · have := (h (k - 1) (by omega)).1; omega
theorem mlen_same {b : List UInt8} {p off k : Nat} (h : k < mlen b p off) : 1 ≤ off ∧ off ≤ p ∧ p + k < b.length ∧ b[p + k]? = b[p + k - off]? := by
  unfold mlen at h
  split at h
  · rename_i hc
    exact ⟨hc.2.1, hc.2.2, runLen_same _ _ _ _ _ h⟩
  · omega

/-- The longest match of the first k offsets. -/
def maxM (b : List UInt8) (p : Nat) : Nat → Nat
  | 0 => 0
  | k + 1 => max (maxM b p k) (mlen b p (k + 1))
/-- The least offset of at most k from o on of such a match. -/
def firstM (b : List UInt8) (p m : Nat) : Nat → Nat → Nat
  | 0, _ => 0
  | f + 1, o => if mlen b p o = m then o else firstM b p m f (o + 1)
theorem maxM_ge (b : List UInt8) (p : Nat) : ∀ k o, 1 ≤ o → o ≤ k → mlen b p o ≤ maxM b p k
  | 0, o, h1, h2 => by omega
  | k + 1, o, h1, h2 => by
    simp only [maxM]
    by_cases h : o = k + 1
    · subst h; omega
    · have := maxM_ge b p k o h1 (by omega); omega
theorem maxM_is (b : List UInt8) (p : Nat) : ∀ k, maxM b p k = 0 ∨ ∃ o, 1 ≤ o ∧ o ≤ k ∧ mlen b p o = maxM b p k
  | 0 => .inl rfl
  | k + 1 => by
    simp only [maxM]
    rcases Nat.le_total (maxM b p k) (mlen b p (k + 1)) with h | h
    · rw [Nat.max_eq_right h]
      exact .inr ⟨k + 1, by omega, Nat.le_refl _, rfl⟩
    · rw [Nat.max_eq_left h]
      rcases maxM_is b p k with h0 | ⟨o, h1, h2, h3⟩
      · exact .inl h0
      · exact .inr ⟨o, h1, by omega, h3⟩
theorem firstM_is (b : List UInt8) (p m : Nat) : ∀ f o o', o ≤ o' → o' < o + f → mlen b p o' = m → (∀ j, o ≤ j → j < o' → mlen b p j ≠ m) → firstM b p m f o = o'
  | 0, o, o', h1, h2, _, _ => by omega
  | f + 1, o, o', h1, h2, h3, h4 => by
    unfold firstM
    by_cases h : o = o'
    · subst h; rw [if_pos h3]
    · rw [if_neg (h4 o (Nat.le_refl _) (by omega))]
      exact firstM_is b p m f (o + 1) o' (by omega) (by omega) h3 fun j h5 h6 => h4 j (by omega) h6

/-- How far back is looked. -/
def reach (p : Nat) : Nat := min p 65536
/-- The best match of a place: the longest, then the least offset; none under 4. -/
def bestR (b : List UInt8) (p : Nat) : Nat × Nat :=
  if 4 ≤ maxM b p (reach p) then (firstM b p (maxM b p (reach p)) (reach p) 1, maxM b p (reach p)) else (0, 0)
theorem least_is (b : List UInt8) (p m : Nat) : ∀ k, (∃ o, 1 ≤ o ∧ o ≤ k ∧ mlen b p o = m) → ∃ o, 1 ≤ o ∧ o ≤ k ∧ mlen b p o = m ∧ ∀ j, 1 ≤ j → j < o → mlen b p j ≠ m
  | 0, ⟨o, h1, h2, _⟩ => by omega
  | k + 1, ⟨o, h1, h2, h3⟩ => by
    by_cases h : ∃ o, 1 ≤ o ∧ o ≤ k ∧ mlen b p o = m
    · obtain ⟨o, g1, g2, g3, g4⟩ := least_is b p m k h
      exact ⟨o, g1, by omega, g3, g4⟩
    · refine ⟨o, h1, h2, h3, fun j j1 j2 j3 => h ⟨j, j1, by omega, j3⟩⟩
/-- What the best match is. -/
theorem bestR_is {b : List UInt8} {p o m : Nat} (h1 : 1 ≤ o) (h2 : o ≤ reach p) (h4 : 4 ≤ m) (hm : mlen b p o = m) (hall : ∀ j, 1 ≤ j → j ≤ reach p → mlen b p j ≤ m) (hlt : ∀ j, 1 ≤ j → j < o → mlen b p j < m) : bestR b p = (o, m) := by
  have e : maxM b p (reach p) = m := by
    have := maxM_ge b p (reach p) o h1 h2
    rcases maxM_is b p (reach p) with h | ⟨o', g1, g2, g3⟩
    · omega
    · have := hall o' g1 g2; omega
  unfold bestR
  rw [e, if_pos h4, firstM_is b p m (reach p) 1 o h1 (by omega) hm fun j j1 j2 => by have := hlt j j1 j2; omega]
theorem bestR_none {b : List UInt8} {p : Nat} (h : ∀ j, 1 ≤ j → j ≤ reach p → mlen b p j < 4) : bestR b p = (0, 0) := by
  unfold bestR
  rw [if_neg]
  rcases maxM_is b p (reach p) with h0 | ⟨o', g1, g2, g3⟩
  · omega
  · have := h o' g1 g2; omega
/-- What there is to say of it. -/
theorem bestR_facts (b : List UInt8) (p : Nat) : bestR b p = (0, 0) ∨ ∃ o m, bestR b p = (o, m) ∧ 1 ≤ o ∧ o ≤ reach p ∧ 4 ≤ m ∧ mlen b p o = m ∧ (∀ j, 1 ≤ j → j ≤ reach p → mlen b p j ≤ m) ∧ ∀ j, 1 ≤ j → j < o → mlen b p j < m := by
  by_cases h : 4 ≤ maxM b p (reach p)
  · right
    rcases maxM_is b p (reach p) with h0 | hx
    · omega
    · obtain ⟨o, g1, g2, g3, g4⟩ := least_is b p _ _ hx
      have hall := fun j (j1 : 1 ≤ j) (j2 : j ≤ reach p) => maxM_ge b p _ j j1 j2
      have hlt : ∀ j, 1 ≤ j → j < o → mlen b p j < maxM b p (reach p) := fun j j1 j2 => by
        have := hall j j1 (by omega)
        have := g4 j j1 j2
        omega
      exact ⟨o, _, bestR_is g1 g2 h g3 hall hlt, g1, g2, h, g3, hall, hlt⟩
  · left
    unfold bestR
    rw [if_neg h]
theorem bestR_room (b : List UInt8) (p : Nat) : (bestR b p).2 ≤ b.length - p ∧ (bestR b p).1 ≤ p := by
  rcases bestR_facts b p with h | ⟨o, m, h, _, h2, _, h4, _⟩
  · rw [h]; exact ⟨Nat.zero_le _, Nat.zero_le _⟩
  · rw [h]
    have := mlen_le b p o
    simp only [reach] at h2
    exact ⟨by simp only; omega, by simp only; omega⟩

/-- A token: bytes, or how far back and how many. -/
structure Tok where
  lit : List UInt8
  off : Int
  len : Int
  deriving DecidableEq
def litT (b : List UInt8) (i j : Nat) : List Tok := if i < j then [⟨(b.drop i).take (j - i), 0, 0⟩] else []
/-- The tokens of a text from place p on, a run having begun at place i. -/
def toksF (b : List UInt8) : Nat → Nat → Nat → List Tok
  | 0, _, i => litT b i b.length
  | f + 1, p, i => if p < b.length then
      (if (bestR b p).2 = 0 then toksF b f (p + 1) i
       else litT b i p ++ ⟨[], (bestR b p).1, (bestR b p).2⟩ :: toksF b f (p + (bestR b p).2) (p + (bestR b p).2))
      else litT b i b.length
def toksR (b : List UInt8) : List Tok := toksF b b.length 0 0
/-- However much there is to spare. -/
theorem toksF_more (b : List UInt8) : ∀ f g p i, b.length ≤ p + f → b.length ≤ p + g → toksF b f p i = toksF b g p i
  | 0, 0, _, _, _, _ => rfl
  | 0, g + 1, p, i, h, _ => by
    simp only [toksF]
    rw [if_neg (by omega)]
  | f + 1, 0, p, i, _, h => by
    simp only [toksF]
    rw [if_neg (by omega)]
  | f + 1, g + 1, p, i, h1, h2 => by
    simp only [toksF]
    split
    · split
      · exact toksF_more b f g (p + 1) i (by omega) (by omega)
      · rename_i hn
        rw [toksF_more b f g (p + (bestR b p).2) (p + (bestR b p).2) (by omega) (by omega)]
    · rfl
/-- The tokens from a place on. -/
def toksA (b : List UInt8) (p i : Nat) : List Tok := toksF b (b.length - p) p i
theorem toksA_none {b : List UInt8} {p i : Nat} (hp : p < b.length) (h : (bestR b p).2 = 0) : toksA b p i = toksA b (p + 1) i := by
  unfold toksA
  obtain ⟨f, hf⟩ : ∃ f, b.length - p = f + 1 := ⟨b.length - p - 1, by omega⟩
  rw [hf]
  simp only [toksF]
  rw [if_pos hp, if_pos h]
  exact toksF_more b _ _ _ _ (by omega) (by omega)
theorem toksA_some {b : List UInt8} {p i : Nat} (hp : p < b.length) (h : (bestR b p).2 ≠ 0) : toksA b p i = litT b i p ++ ⟨[], (bestR b p).1, (bestR b p).2⟩ :: toksA b (p + (bestR b p).2) (p + (bestR b p).2) := by
  unfold toksA
  obtain ⟨f, hf⟩ : ∃ f, b.length - p = f + 1 := ⟨b.length - p - 1, by omega⟩
  rw [hf]
  simp only [toksF]
  rw [if_pos hp, if_neg h]
  congr 2
  exact toksF_more b _ _ _ _ (by omega) (by omega)
theorem toksA_end {b : List UInt8} {p i : Nat} (hp : b.length ≤ p) : toksA b p i = litT b i b.length := by
  unfold toksA
  rw [show b.length - p = 0 by omega]; rfl

/-! Places with the same key. -/
def keyAt (b : List UInt8) (p : Nat) : Option Nat :=
  match b[p]?, b[p + 1]?, b[p + 2]?, b[p + 3]? with
  | some a, some c, some d, some e => some (a.toNat + 256 * c.toNat + 65536 * d.toNat + 16777216 * e.toNat)
  | _, _, _, _ => none
/-- One more than the last place below j with that key, or 0. -/
def lastP (b : List UInt8) (k : Nat) : Nat → Nat
  | 0 => 0
  | j + 1 => if keyAt b j = some k then j + 1 else lastP b k j
theorem lastP_le (b : List UInt8) (k : Nat) : ∀ j, lastP b k j ≤ j
  | 0 => Nat.le_refl _
  | j + 1 => by
    unfold lastP
    split
    · omega
    · have := lastP_le b k j; omega
theorem lastP_key (b : List UInt8) (k : Nat) : ∀ j, lastP b k j ≠ 0 → keyAt b (lastP b k j - 1) = some k
  | 0, h => absurd rfl h
  | j + 1, h => by
    unfold lastP at h ⊢
    split
    · rename_i hk; simpa using hk
    · rename_i hk
      rw [if_neg hk] at h
      exact lastP_key b k j h
end Go.Bs
namespace Go.Bs
open Go.RowKit
set_option linter.unusedVariables false
set_option linter.unusedSimpArgs false
section
variable {w w' : World} {α : Type}

/-- v is an own slice whose elements stand for xs, and no element reaches into the slice's own block. -/
def OwnElsAt (lo : Nat) (A : Rp α) (base : Nat) (e : TypeId) (sz : Nat) (w : World) (v : Value) (xs : List α) (cells : List (List Value)) : Prop :=
  w.ownsRow base e sz v xs.length cells.flatten ∧ cells.length = xs.length ∧ (∀ c ∈ cells, c.length = sz) ∧
    ∀ (i : Nat) cs x, cells[i]? = some cs → xs[i]? = some x → A.r (fun b => lo ≤ b ∧ b < w.heap.size ∧ v.ownBlock ≠ some b) w cs x
def OwnEls (lo : Nat) (A : Rp α) (base : Nat) (e : TypeId) (sz : Nat) (w : World) (v : Value) (xs : List α) : Prop := ∃ cells, OwnElsAt lo A base e sz w v xs cells

theorem flatten_at (sz : Nat) : ∀ (l : List (List Value)), (∀ c ∈ l, c.length = sz) → ∀ (i j : Nat) cs v, l[i]? = some cs → cs[j]? = some v → l.flatten[i * sz + j]? = some v
  | [], _, i, j, cs, v, h, _ => by simp at h
  | c :: l, hl, i, j, cs, v, h, hj => by
    have hc := hl c (List.mem_cons_self ..)
    rw [List.flatten_cons]
    cases i with
    | zero =>
      simp at h
      subst h
      have := (List.getElem?_eq_some_iff.1 hj).1
      rw [Nat.zero_mul, Nat.zero_add, List.getElem?_append_left (by omega)]
      exact hj
    | succ i =>
      simp at h
      rw [List.getElem?_append_right (by rw [hc, Nat.succ_mul]; omega), hc, show (i + 1) * sz + j - sz = i * sz + j by rw [Nat.succ_mul]; omega]
      exact flatten_at sz l (fun c h => hl c (List.mem_cons_of_mem _ h)) i j cs v h hj

theorem OwnEls.nil {lo : Nat} {A : Rp α} {base : Nat} {e : TypeId} {sz : Nat} : OwnEls lo A base e sz w (.slice none 0 0) [] :=
  ⟨[], ⟨by simp, .inl ⟨rfl, rfl⟩⟩, rfl, (by simp), fun i cs x h => by simp at h⟩

theorem OwnEls.slice {lo : Nat} {A : Rp α} {base : Nat} {e : TypeId} {sz : Nat} {v : Value} {xs : List α} (hlo : lo ≤ base) (h : OwnEls lo A base e sz w v xs) : (rSl sz A).r (fun b => lo ≤ b ∧ b < w.heap.size) w [v] xs := by
  obtain ⟨cells, hown, hlen, hsz, hA⟩ := h
  rcases hown.2 with ⟨rfl, h0⟩ | ⟨g, cap, cur, rfl, hbg, hg, hn, hc, hcur, hx⟩
  · have : xs = [] := List.eq_nil_of_length_eq_zero h0
    subst this
    exact rSl_mk rfl (Nat.le_refl _) (Nat.zero_le _) (.inl rfl)
  · refine rSl_mk rfl hn hc (.inr ⟨g, 0, rfl, ⟨Nat.le_trans hlo hbg, (Array.getElem?_eq_some_iff.1 hg).1⟩, fun i x hi => ?_⟩)
    have hi' : i < xs.length := (List.getElem?_eq_some_iff.1 hi).1
    have hic : i < cells.length := by omega
    have hcs : cells[i]? = some cells[i] := List.getElem?_eq_getElem hic
    refine ⟨cells[i], hsz _ (List.getElem_mem hic), fun j v hj => ?_, A.mono (hA i _ x hcs hi) fun b h => ⟨h.1, h.2.1⟩⟩
    have hj' : j < sz := by have := (List.getElem?_eq_some_iff.1 hj).1; rw [hsz _ (List.getElem_mem hic)] at this; exact this
    have hf := flatten_at sz cells hsz i j _ v hcs hj
    rw [Nat.zero_add, show (⟨g, i * sz + j, none⟩ : Addr) = ⟨g, i * sz + j, none⟩ from rfl, Blk.cell hg (i * sz + j)]
    have hb : i * sz + j < xs.length * sz := by
      have := Nat.mul_le_mul_right sz (show i + 1 ≤ xs.length from hi')
      rw [Nat.succ_mul] at this
      omega
    have e1 : cur[i * sz + j]? = (cur.toList.take (xs.length * sz))[i * sz + j]? := by
      rw [List.getElem?_take, if_pos hb]; simp
    rw [e1, hx]; exact hf

/-- A slice whose cells may be written, and into whose block no element reaches. -/
def rSlW {α : Type} (sz : Nat) (A : Rp α) : Rp (List α) :=
  ⟨fun S w cs xs => ∃ a c, cs = [.slice a xs.length c] ∧ xs.length ≤ c ∧ c ≤ maxLen ∧ (xs = [] ∨ ∃ b off, a = some ⟨b, off, none⟩ ∧ S b ∧ ∀ (i : Nat) x, xs[i]? = some x → ∃ cs : List Value, cs.length = sz ∧
      (∀ (j : Nat) v, cs[j]? = some v → w.cell? ⟨b, off + i * sz + j, none⟩ = some v ∧ w.frozen? ⟨b, off + i * sz + j, none⟩ = false) ∧ A.r (fun q => S q ∧ q ≠ b) w cs x),
   fun ⟨a, c, h, h1, h2, h3⟩ hk => ⟨a, c, h, h1, h2, h3.imp id fun ⟨b, off, e, hb, hr⟩ => ⟨b, off, e, hb, fun i x hi =>
     let ⟨cs, hl, hc, hA⟩ := hr i x hi
     ⟨cs, hl, fun j v hj => ⟨(World.cell?_of_block (a := ⟨b, off + i * sz + j, none⟩) (hk b hb)).trans (hc j v hj).1, (World.frozen?_of_block (a := ⟨b, off + i * sz + j, none⟩) (hk b hb)).trans (hc j v hj).2⟩, A.keep hA fun q hq => hk q hq.1⟩⟩⟩,
   fun ⟨a, c, h, h1, h2, h3⟩ hk => ⟨a, c, h, h1, h2, h3.imp id fun ⟨b, off, e, hb, hr⟩ => ⟨b, off, e, hk b hb, fun i x hi =>
     let ⟨cs, hl, hc, hA⟩ := hr i x hi
     ⟨cs, hl, hc, A.mono hA fun q hq => ⟨hk q hq.1, hq.2⟩⟩⟩⟩⟩
theorem slW_sl {sz : Nat} {A : Rp α} {S : Nat → Prop} {cs : List Value} {xs : List α} (h : (rSlW sz A).r S w cs xs) : (rSl sz A).r S w cs xs := by
  obtain ⟨a, c, h1, h2, h3, h4⟩ := h
  refine ⟨a, c, h1, h2, h3, h4.imp id fun ⟨b, off, e, hb, hr⟩ => ⟨b, off, e, hb, fun i x hi => ?_⟩⟩
  obtain ⟨cs, h5, h6, h7⟩ := hr i x hi
  exact ⟨cs, h5, fun j v hj => (h6 j v hj).1, A.mono h7 fun q hq => hq.1⟩
def rLinksW : Rp (List Link) := rSlW 2 rLink
def rEntryW : Rp Entry := rBy (fun e => (e.links, e.data)) (rPair rLinksW rBytes)
def rEntriesW : Rp (List Entry) := rSlW 2 rEntryW
theorem linksW_links {S : Nat → Prop} {cs : List Value} {x : List Link} (h : rLinksW.r S w cs x) : rLinks.r S w cs x := slW_sl h
theorem OwnEls.sliceW {lo : Nat} {A : Rp α} {base : Nat} {e : TypeId} {sz : Nat} {v : Value} {xs : List α} (hlo : lo ≤ base) (h : OwnEls lo A base e sz w v xs) : (rSlW sz A).r (fun b => lo ≤ b ∧ b < w.heap.size) w [v] xs := by
  obtain ⟨cells, hown, hlen, hsz, hA⟩ := h
  rcases hown.2 with ⟨rfl, h0⟩ | ⟨g, cap, cur, rfl, hbg, hg, hn, hc, hcur, hx⟩
  · have : xs = [] := List.eq_nil_of_length_eq_zero h0
    subst this
    exact ⟨none, 0, rfl, Nat.le_refl _, Nat.zero_le _, .inl rfl⟩
  · refine ⟨_, cap, rfl, hn, hc, .inr ⟨g, 0, rfl, ⟨Nat.le_trans hlo hbg, (Array.getElem?_eq_some_iff.1 hg).1⟩, fun i x hi => ?_⟩⟩
    have hi' : i < xs.length := (List.getElem?_eq_some_iff.1 hi).1
    have hic : i < cells.length := by omega
    have hcs : cells[i]? = some cells[i] := List.getElem?_eq_getElem hic
    refine ⟨cells[i], hsz _ (List.getElem_mem hic), fun j v hj => ⟨?_, Blk.free hg _⟩, A.mono (hA i _ x hcs hi) fun b h => ⟨⟨h.1, h.2.1⟩, fun e => h.2.2 (by rw [e]; rfl)⟩⟩
    have hj' : j < sz := by have := (List.getElem?_eq_some_iff.1 hj).1; rw [hsz _ (List.getElem_mem hic)] at this; exact this
    have hf := flatten_at sz cells hsz i j _ v hcs hj
    rw [Nat.zero_add, show (⟨g, i * sz + j, none⟩ : Addr) = ⟨g, i * sz + j, none⟩ from rfl, Blk.cell hg (i * sz + j)]
    have hb : i * sz + j < xs.length * sz := by
      have := Nat.mul_le_mul_right sz (show i + 1 ≤ xs.length from hi')
      rw [Nat.succ_mul] at this
      omega
    have e1 : cur[i * sz + j]? = (cur.toList.take (xs.length * sz))[i * sz + j]? := by
      rw [List.getElem?_take, if_pos hb]; simp
    rw [e1, hx]; exact hf

theorem OwnElsAt.push {lo : Nat} {A : Rp α} {base : Nat} {e : TypeId} {sz : Nat} {v v' : Value} {xs : List α} {news : List Value} {x : α} {cells : List (List Value)} (h : OwnElsAt lo A base e sz w v xs cells)
    (hn : news.length = sz) (hx : A.r (fun b => lo ≤ b ∧ b < w.heap.size ∧ v.ownBlock ≠ some b) w news x)
    (hown : w'.ownsRow base e sz v' (xs.length + 1) (cells.flatten ++ news)) (hg : w.grownBy w' v.ownBlock) (hat : v'.ownBlock = v.ownBlock ∨ v'.ownBlock = some w.heap.size) (hsz' : w.heap.size ≤ w'.heap.size) : OwnElsAt lo A base e sz w' v' (xs ++ [x]) (cells ++ [news]) := by
  obtain ⟨ho, hlen, hsz, hA⟩ := h
  have lift : ∀ cs y, A.r (fun b => lo ≤ b ∧ b < w.heap.size ∧ v.ownBlock ≠ some b) w cs y → A.r (fun b => lo ≤ b ∧ b < w'.heap.size ∧ v'.ownBlock ≠ some b) w' cs y := fun cs y hr =>
    A.mono (A.keep hr fun b hb => hg.block b hb.2.1 (fun e => hb.2.2 e.symm)) fun b hb => ⟨hb.1, Nat.lt_of_lt_of_le hb.2.1 hsz', fun e => by
      rcases hat with h | h
      · exact hb.2.2 (h ▸ e)
      · rw [h] at e; have := Option.some.inj e; have := hb.2.1; omega⟩
  refine ⟨?_, by simp [hlen], ?_, ?_⟩
  · rw [List.flatten_append, List.length_append]
    simpa using hown
  · intro c hc
    rcases List.mem_append.1 hc with h | h
    · exact hsz c h
    · simp at h; subst h; exact hn
  · intro i cs y hi hy
    by_cases hlt : i < xs.length
    · rw [List.getElem?_append_left (by omega)] at hi
      rw [List.getElem?_append_left hlt] at hy
      exact lift _ _ (hA i cs y hi hy)
    · have hii : i = xs.length := by
        have := (List.getElem?_eq_some_iff.1 hy).1
        simp at this
        omega
      subst hii
      rw [List.getElem?_append_right (by omega)] at hi
      rw [List.getElem?_append_right (Nat.le_refl _)] at hy
      simp [hlen] at hi
      simp at hy
      subst hi hy
      exact lift _ _ hx

theorem OwnEls.push {lo : Nat} {A : Rp α} {base : Nat} {e : TypeId} {sz : Nat} {v v' : Value} {xs : List α} {news : List Value} {x : α} {cells : List (List Value)} (h : OwnElsAt lo A base e sz w v xs cells)
    (hn : news.length = sz) (hx : A.r (fun b => lo ≤ b ∧ b < w.heap.size ∧ v.ownBlock ≠ some b) w news x)
    (hown : w'.ownsRow base e sz v' (xs.length + 1) (cells.flatten ++ news)) (hg : w.grownBy w' v.ownBlock) (hat : v'.ownBlock = v.ownBlock ∨ v'.ownBlock = some w.heap.size) (hsz' : w.heap.size ≤ w'.heap.size) : OwnEls lo A base e sz w' v' (xs ++ [x]) :=
  ⟨_, OwnElsAt.push h hn hx hown hg hat hsz'⟩

/-- A world that has only grown keeps it. -/
theorem OwnEls.below {lo : Nat} {A : Rp α} {base : Nat} {e : TypeId} {sz : Nat} {v : Value} {xs : List α} (h : OwnEls lo A base e sz w v xs) (hb : Below w.heap.size w w') : OwnEls lo A base e sz w' v xs := by
  obtain ⟨cells, ho, hlen, hsz, hA⟩ := h
  refine ⟨cells, ⟨ho.1, ?_⟩, hlen, hsz, fun i cs x hi hx => A.mono (A.keep (hA i cs x hi hx) fun b h => hb.block b h.2.1) fun b h => ⟨h.1, Nat.lt_of_lt_of_le h.2.1 hb.size, h.2.2⟩⟩
  rcases ho.2 with h0 | ⟨g, cap, cur, h1, h2, h3, h4⟩
  · exact .inl h0
  · exact .inr ⟨g, cap, cur, h1, h2, by rw [hb.block g (Array.getElem?_eq_some_iff.1 h3).1]; exact h3, h4⟩

theorem OwnElsAt.below {lo : Nat} {A : Rp α} {base : Nat} {e : TypeId} {sz : Nat} {v : Value} {xs : List α} {cells : List (List Value)} (h : OwnElsAt lo A base e sz w v xs cells) (hb : Below w.heap.size w w') : OwnElsAt lo A base e sz w' v xs cells := by
  obtain ⟨ho, hlen, hsz, hA⟩ := h
  refine ⟨⟨ho.1, ?_⟩, hlen, hsz, fun i cs x hi hx => A.mono (A.keep (hA i cs x hi hx) fun b h => hb.block b h.2.1) fun b h => ⟨h.1, Nat.lt_of_lt_of_le h.2.1 hb.size, h.2.2⟩⟩
  rcases ho.2 with h0 | ⟨g, cap, cur, h1, h2, h3, h4⟩
  · exact .inl h0
  · exact .inr ⟨g, cap, cur, h1, h2, by rw [hb.block g (Array.getElem?_eq_some_iff.1 h3).1]; exact h3, h4⟩

theorem own_empty {base : Nat} {e : TypeId} {size : Nat} (W : World) (hb : base ≤ W.heap.size) {g : Nat} (hg : g = W.heap.size) : (W.alloc (.cells #[] e)).ownsRow base e size (.slice (some ⟨g, 0, none⟩) 0 0) 0 [] := by
  subst hg
  exact ⟨by simp, .inr ⟨_, 0, #[], rfl, hb, (MapKept.heap_alloc W _).1, Nat.le_refl _, Nat.zero_le _, by simp, by simp⟩⟩
theorem own_empty_blk {base : Nat} {e : TypeId} {size : Nat} {W : World} {g : Nat} (h : Blk W g e #[]) (hb : base ≤ g) : W.ownsRow base e size (.slice (some ⟨g, 0, none⟩) 0 0) 0 [] :=
  ⟨by simp, .inr ⟨g, 0, #[], rfl, hb, h, Nat.le_refl _, Nat.zero_le _, by simp, by simp⟩⟩
theorem own_form {base : Nat} {e : TypeId} {size : Nat} {v : Value} {n : Nat} {xs : List Value} (h : w.ownsRow base e size v n xs) : ∃ a c, v = .slice a n c := by
  rcases h.2 with ⟨rfl, rfl⟩ | ⟨g, cap, cur, rfl, _⟩
  · exact ⟨_, _, rfl⟩
  · exact ⟨_, _, rfl⟩
theorem own_one {base : Nat} {e : TypeId} {v : Value} {A : Rp α} (f : α → Value) {l : List α} {n : Nat} (hf : ∀ (S : Nat → Prop) x, x ∈ l → A.r S w [f x] x) (hn : n = l.length) (h : w.ownsRow base e 1 v n (l.map f)) : (rSl 1 A).r (fun b => base ≤ b ∧ b < w.heap.size) w [v] l := by
  subst hn
  rcases h.2 with ⟨rfl, h0⟩ | ⟨g, cap, cur, rfl, hbg, hg, hn, hc, hcur, hx⟩
  · have : l = [] := List.eq_nil_of_length_eq_zero h0
    subst this
    exact rSl_mk rfl (Nat.le_refl _) (Nat.zero_le _) (.inl rfl)
  · refine rSl_mk rfl hn hc (.inr ⟨g, 0, rfl, ⟨hbg, Blk.lt hg⟩, fun i x hi => ⟨[f x], rfl, fun j v hj => ?_, hf _ x (List.mem_of_getElem? hi)⟩⟩)
    have hj0 : j = 0 := by
      rcases j with _ | j
      · rfl
      · simp at hj
    subst hj0
    simp at hj
    subst hj
    have hi' : i < l.length := (List.getElem?_eq_some_iff.1 hi).1
    rw [Nat.zero_add, Nat.mul_one, Nat.add_zero, Blk.cell hg i]
    have e1 : cur[i]? = (cur.toList.take (l.length * 1))[i]? := by
      rw [List.getElem?_take, if_pos (by omega)]; simp
    rw [e1, hx, List.getElem?_map, hi]; rfl

def u64Cells (l : List Int) : List Value := l.map fun n => .int .u64 n
theorem own_ints64 {base : Nat} {e : TypeId} {v : Value} {l : List Int} {n : Nat} (hw : ∀ x ∈ l, 0 ≤ x ∧ x ≤ 18446744073709551615) (hn : n = l.length) (h : w.ownsRow base e 1 v n (u64Cells l)) : rU64s.r (fun b => base ≤ b ∧ b < w.heap.size) w [v] l :=
  own_one _ (fun _ x hx => ⟨rfl, u64_wf (hw x hx)⟩) hn h
theorem own_bytes2 {base : Nat} {e : TypeId} {v : Value} {l : List UInt8} {n : Nat} (hn : n = l.length) (h : w.ownsRow base e 1 v n (byteCells l)) : rBytes.r (fun b => base ≤ b ∧ b < w.heap.size) w [v] l :=
  own_one _ (fun _ x _ => rfl) hn h

theorem own_below {base : Nat} {e : TypeId} {size : Nat} {v : Value} {n : Nat} {xs : List Value} (h : w.ownsRow base e size v n xs) (hb : Below w.heap.size w w') : w'.ownsRow base e size v n xs := by
  refine ⟨h.1, ?_⟩
  rcases h.2 with h0 | ⟨g, cap, cur, h1, h2, h3, h4⟩
  · exact .inl h0
  · exact .inr ⟨g, cap, cur, h1, h2, by rw [hb.block g (Array.getElem?_eq_some_iff.1 h3).1]; exact h3, h4⟩

theorem step_append_src {P : Program} {ops : Array Oper} {o : Oper} {a : Act} {K : Act → World → Prop} {Q : Exit → Act → World → Prop} {E : Prop} (hgd : o.guard = none) (s x : Operand) (t : TypeId)
    (ho : o.op = .call { callee := .builtin .append, args := #[s, x], argTypes := #[t, t] })
    (base : Nat) (e : TypeId) (i : TypeInfo) (z : Value) (size bytes : Nat) (ht : P.underlying t = some (.slice e)) (hi : P.info? e = some i) (hz : i.zero = some z)
    (hsize : i.size = size) (hby : i.bytes = bytes) (hzs : z.cells.size = size) (hsz : 0 < size)
    (v : Value) (n : Nat) (xs : List Value) (hs : a.eval s = v) (hown : w.ownsRow base e size v n xs)
    (A : Option Addr) (m c : Nat) (news : List Value) (hx : a.eval x = .slice A m c) (hsrc : Src w A m size news) (h1 : ∀ u ∈ news, u.oneCell' = true)
    (h63 : n + m ≤ maxLen) (hbytes : (n + m) * bytes ≤ 140737488355328) (hbase : base ≤ w.heap.size)
    (h : ∀ a' c' w', w'.ownsRow base e size (.slice a' (n + m) c') (n + m) (xs ++ news) → w.grownBy w' v.ownBlock → ((Value.slice a' (n + m) c').ownBlock = v.ownBlock ∨ (Value.slice a' (n + m) c').ownBlock = some w.heap.size) → K (a.put o.dst (.slice a' (n + m) c')) w') :
    if Region.wanted o (yielded ops a.tmps) = true then Oper.wp P o a w K Q else E := by
  have hw : Region.wanted o (yielded ops a.tmps) = true := by simp [Region.wanted, hgd]
  rw [if_pos hw]
  obtain ⟨v', w', hrun, h2, h3, h4⟩ := run_append_src (P := P) base t o.type e i z size bytes ht hi hz hsize hby hzs hsz v n xs hown A m c news hsrc h1 h63 hbytes hbase
  obtain ⟨a', c', rfl⟩ := own_form h2
  unfold Oper.wp execOp
  simp only [ho, resolve, invoke, builtin, Sem.run_bind, Sem.run_pure, Result.andThen_ok, List.map_toArray, List.map_cons, List.map_nil, hs, hx, hrun]
  exact h a' c' w' h2 h3 h4
end
end Go.Bs
namespace Go.Proofs.YtfddhafbhceoaaaGreat
open Go.RowKit Go.Bs
set_option linter.unusedVariables false
set_option linter.unusedSimpArgs false

/-- One byte is as another one. -/
def same1 (b : List UInt8) (p q : Nat) : Bool := decide (p < b.length) && decide (b[p]? = b[q]?)
theorem same1_at {b : List UInt8} {p q : Nat} (hp : p < b.length) (hq : q < b.length) : same1 b p q = ((b[p].toNat : Int) == (b[q].toNat : Int)) := by
  unfold same1
  rw [decide_eq_true hp, Bool.true_and, List.getElem?_eq_getElem hp, List.getElem?_eq_getElem hq, Bool.eq_iff_iff]
  simp only [decide_eq_true_eq, Option.some.injEq, beq_iff_eq]
  constructor
  · intro h; rw [h]
  · intro h; exact UInt8.toNat_inj.1 (by omega)


def mlenAt (b : List UInt8) (p off k : Nat) : Nat := k + runLen b off (b.length - p - k) (p + k)
theorem mlenAt_zero {b : List UInt8} {p off : Nat} (h : p < b.length ∧ 1 ≤ off ∧ off ≤ p) : mlen b p off = mlenAt b p off 0 := by
  unfold mlen mlenAt
  rw [if_pos h]; simp
theorem mlenAt_yes {b : List UInt8} {p off k : Nat} (h : same1 b (p + k) (p + k - off) = true) : mlenAt b p off k = mlenAt b p off (k + 1) ∧ p + k < b.length := by
  simp only [same1, Bool.and_eq_true, decide_eq_true_eq] at h
  refine ⟨?_, h.1⟩
  unfold mlenAt
  obtain ⟨f, hf⟩ : ∃ f, b.length - p - k = f + 1 := ⟨b.length - p - k - 1, by omega⟩
  rw [hf, show b.length - p - (k + 1) = f by omega]
  simp only [runLen]
  rw [if_pos h, show p + (k + 1) = p + k + 1 by omega]
  omega
theorem mlenAt_no {b : List UInt8} {p off k : Nat} (h : same1 b (p + k) (p + k - off) = false) : mlenAt b p off k = k := by
  unfold mlenAt
  rcases Nat.eq_zero_or_pos (b.length - p - k) with h0 | h0
  · rw [h0]; rfl
  · obtain ⟨f, hf⟩ : ∃ f, b.length - p - k = f + 1 := ⟨b.length - p - k - 1, by omega⟩
    rw [hf]
    simp only [runLen]
    rw [if_neg]
    · omega
    · rintro ⟨h1, h2⟩
      have : same1 b (p + k) (p + k - off) = true := by unfold same1; rw [decide_eq_true h1, decide_eq_true h2]; rfl
      rw [this] at h; cases h
theorem mlen_zero {b : List UInt8} {p off : Nat} (h : ¬ (p < b.length ∧ 1 ≤ off ∧ off ≤ p)) : mlen b p off = 0 := by
  unfold mlen; rw [if_neg h]

set_option maxHeartbeats 1600000 in
theorem seek_match1 (b : List UInt8) (p off : Nat) (a : Option Addr) (n c : Nat) (w : World) (hl : rBytes.r (· < w.heap.size) w [.slice a n c] b) (hlen : b.length ≤ 1048576) (hp : p ≤ 1048576) (ho : off ≤ 1048577) :
    Calls Tryz.prog 381 #[.slice a n c, .int .i64 p, .int .i64 off] w fun r w' => r = .returned (.int .i64 (mlen b p off)) ∧ Below w.heap.size w w' := by
  obtain ⟨rfl, hm, _, _⟩ := sl_len hl
  by_cases h1 : p < b.length
  · have d0 : decide ((p : Int) < 0) = false := by simp
    have d1 : decide ((b.length : Int) ≤ (p : Int)) = false := by simp; omega
    have d1' : decide (b.length ≤ p) = false := by simp; omega
    by_cases h2 : 1 ≤ off
    · have d2 : decide ((off : Int) < 1) = false := by simp; omega
      by_cases h3 : off ≤ p
      · have d3 : decide ((p : Int) < (off : Int)) = false := by simp; omega
        have d3' : decide (p < off) = false := by simp; omega
        have hff := hid (mlenAt_zero (off := off) ⟨h1, h2, h3⟩)
        obtain ⟨g, o, hA, hg, _⟩ := byte_at hl h1
        subst hA
        have HL := hid hl; clear hl
        go_enter Tryz.func381, Tryz.ntmps381
        go_wp2_with fail
        go_loopw [7] (fun i wr => ∃ k : Nat, k ≤ b.length - p ∧ i = .int .i64 k ∧ Hid (mlen b p off = mlenAt b p off k) ∧ Below w.heap.size w wr) (fun i _ => b.length - (intOf i).toNat)
        case atStart => exact ⟨0, Nat.zero_le _, rfl, hff, Below.refl _ _⟩
        case round =>
          obtain ⟨k, hk, rfl, hf, hb⟩ := hrel
          clear hff
          have d4 : decide ((k : Int) < 1048576) = true := by simp; omega
          by_cases hlt : p + k < b.length
          · have d5 : decide ((p : Int) + (k : Int) < (b.length : Int)) = true := by simp; omega
            have hlq : p + k - off < b.length := by omega
            obtain ⟨g1, o1, hA1, _, hc⟩ := byte_at HL.out hlt
            obtain ⟨g2, o2, hA2, _, hc'⟩ := byte_at HL.out hlq
            simp only [Option.some.injEq, Addr.mk.injEq, and_true] at hA1 hA2
            obtain ⟨rfl, rfl⟩ := hA1
            obtain ⟨rfl, rfl⟩ := hA2
            have C1 := fun s : Later wr => s.cell ((hb.cell (p := ⟨g, o + (p + k), none⟩) hg).trans hc)
            have C2 := fun s : Later wr => s.cell ((hb.cell (p := ⟨g, o + (p + k - off), none⟩) hg).trans hc')
            have hsa := same1_at hlt hlq
            generalize b[p + k] = x at *
            generalize b[p + k - off] = y at *
            clear hc hc'
            have i1 : (0 : Int) ≤ (p : Int) + (k : Int) := by omega
            have i2 : (0 : Int) ≤ (p : Int) + (k : Int) - (off : Int) := by omega
            have i3 : (p : Int) + (k : Int) - (off : Int) < (b.length : Int) := by omega
            have i4 : (p : Int) + (k : Int) < (b.length : Int) := by omega
            have t1 : ((p : Int) + (k : Int)).toNat = p + k := by omega
            have t2 : ((p : Int) + (k : Int) - (off : Int)).toNat = p + k - off := by omega
            cases hs : same1 b (p + k) (p + k - off)
            · have hend := hid (mlenAt_no hs)
              rw [hs] at hsa
              have e1 : ((x.toNat : Int) == (y.toNat : Int)) = false := hsa.symm
              clear hs hsa
              go_wp2_with fail
              refine wp_region_later (by kernel_rfl) (by kernel_rfl) ?_
              repeat (go_big_quiet_step (fail))
              refine wpQuiet_nil ?_
              rintro W5 ⟨⟨W5', hb5⟩, rfl⟩
              go_wp2
              go_ret
              exact ⟨by rw [hf.out, hend.out]; rfl, below_then hb5 hb⟩
            · obtain ⟨hn, _⟩ := mlenAt_yes hs
              have HN := hid hn
              rw [hs] at hsa
              have e1 : ((x.toNat : Int) == (y.toNat : Int)) = true := hsa.symm
              clear hs hsa hn
              go_wp2_with fail
              refine wp_region_later (by kernel_rfl) (by kernel_rfl) ?_
              repeat (go_big_quiet_step (fail))
              refine wpQuiet_nil ?_
              rintro W5 ⟨⟨W5', hb5⟩, rfl⟩
              clear t1 t2
              go_wp2
              go_roundw
              case rel => exact ⟨k + 1, by omega, by go_num, hid (by rw [hf.out, HN.out]), below_then hb5 hb⟩
              case measure => simp [intOf]; omega
          · have d5 : decide ((p : Int) + (k : Int) < (b.length : Int)) = false := by simp; omega
            have hs : same1 b (p + k) (p + k - off) = false := by simp [same1, hlt]
            have hend := hid (mlenAt_no hs)
            clear hs
            go_wp2_with fail
            refine wp_region_later (by kernel_rfl) (by kernel_rfl) ?_
            repeat (go_big_quiet_step (fail))
            refine wpQuiet_nil ?_
            rintro W5 ⟨⟨W5', hb5⟩, rfl⟩
            go_wp2
            go_ret
            exact ⟨by rw [hf.out, hend.out]; rfl, below_then hb5 hb⟩
      · have d3 : decide ((p : Int) < (off : Int)) = true := by simp; omega
        have hff := hid (mlen_zero (b := b) (p := p) (off := off) (by omega))
        go_enter Tryz.func381, Tryz.ntmps381
        go_wp2
        go_ret
        exact ⟨by rw [hff.out]; rfl, by (repeat (first | exact Below.refl _ _ | assumption | (refine below_alloc ?_ _) | (refine Below.setCell ?_ (by first | omega | (simp; done) | (simp; omega)) _) | (refine Below.drew ?_) | (refine below_drewN ?_ _) | (refine below_then (by assumption) ?_)))⟩
    · have d2 : decide ((off : Int) < 1) = true := by simp; omega
      have hff := hid (mlen_zero (b := b) (p := p) (off := off) (by omega))
      go_enter Tryz.func381, Tryz.ntmps381
      go_wp2
      go_ret
      exact ⟨by rw [hff.out]; rfl, by (repeat (first | exact Below.refl _ _ | assumption | (refine below_alloc ?_ _) | (refine Below.setCell ?_ (by first | omega | (simp; done) | (simp; omega)) _) | (refine Below.drew ?_) | (refine below_drewN ?_ _) | (refine below_then (by assumption) ?_)))⟩
  · have d1 : decide ((b.length : Int) ≤ (p : Int)) = true := by simp; omega
    have hff := hid (mlen_zero (b := b) (p := p) (off := off) (by omega))
    go_enter Tryz.func381, Tryz.ntmps381
    go_wp2
    go_ret
    exact ⟨by rw [hff.out]; rfl, by (repeat (first | exact Below.refl _ _ | assumption | (refine below_alloc ?_ _) | (refine Below.setCell ?_ (by first | omega | (simp; done) | (simp; omega)) _) | (refine Below.drew ?_) | (refine below_drewN ?_ _) | (refine below_then (by assumption) ?_)))⟩
theorem seek_match (b : List UInt8) (p off : Int) (h0 : 0 ≤ p) (h1 : 0 ≤ off) (a : Option Addr) (n c : Nat) (w : World) (hl : rBytes.r (· < w.heap.size) w [.slice a n c] b) (hlen : b.length ≤ 1048576) (hp : p ≤ 1048576) (ho : off ≤ 1048577) :
    Calls Tryz.prog 381 #[.slice a n c, .int .i64 p, .int .i64 off] w fun r w' => r = .returned (.int .i64 (mlen b p.toNat off.toNat)) ∧ Below w.heap.size w w' := by
  obtain ⟨p', rfl⟩ := Int.eq_ofNat_of_zero_le h0
  obtain ⟨q', rfl⟩ := Int.eq_ofNat_of_zero_le h1
  exact seek_match1 b p' q' a n c w hl hlen (by omega) (by omega)

theorem seek_taken (o n : Int) (w : World) : Calls Tryz.prog 382 #[.int .i64 o, .int .i64 n] w fun r w' => r = .returned (.tuple #[.int .i64 (if n < 4 then 0 else o), .int .i64 (if n < 4 then 0 else n)]) ∧ w = w' := by
  by_cases h : n < 4
  · rw [if_pos h, if_pos h]
    have d1 : decide (n < 4) = true := by simpa using h
    clear h
    go_enter Tryz.func382, Tryz.ntmps382
    go_wp2
    go_ret2
    exact ⟨rfl, rfl⟩
  · rw [if_neg h, if_neg h]
    have d1 : decide (n < 4) = false := by simpa using h
    clear h
    go_enter Tryz.func382, Tryz.ntmps382
    go_wp2
    go_ret2
    exact ⟨rfl, rfl⟩

theorem bits_or_u32_nat (a b : Nat) (ha : a < 4294967296) (hb : b < 4294967296) : bits .or .u32 (a : Int) (b : Int) = ((a ||| b : Nat) : Int) := by
  have hx : a ||| b < 2 ^ 32 := Nat.or_lt_two_pow (by omega) (by omega)
  have h1 : (BitVec.ofInt 32 (a : Int)).toNat = a := by
    rw [BitVec.ofInt_natCast, BitVec.toNat_ofNat]; exact Nat.mod_eq_of_lt (by omega)
  have h2 : (BitVec.ofInt 32 (b : Int)).toNat = b := by
    rw [BitVec.ofInt_natCast, BitVec.toNat_ofNat]; exact Nat.mod_eq_of_lt (by omega)
  show IntKind.u32.wrap ((BitVec.ofInt 32 (a : Int) ||| BitVec.ofInt 32 (b : Int)).toNat : Int) = _
  rw [BitVec.toNat_or, h1, h2, IntKind.wrap_u32]
  omega
/-- Digits that do not meet are added. -/
theorem or_add (a c k : Nat) (h : a < 2 ^ k) : a ||| (c * 2 ^ k) = a + c * 2 ^ k := by
  rw [Nat.or_comm, ← Nat.shiftLeft_eq, ← Nat.shiftLeft_add_eq_or_of_lt h, Nat.add_comm]
theorem or_u32 (a c k m : Nat) (hm : 2 ^ k = m) (h : a < m) (hc : c * m < 4294967296) (ha : a < 4294967296) : bits .or .u32 (a : Int) ((c : Int) * (m : Int)) = (a : Int) + c * m := by
  have e : ((c : Int) * (m : Int)) = ((c * m : Nat) : Int) := by simp
  rw [e, bits_or_u32_nat a (c * m) ha hc, ← hm, or_add a c k (by rw [hm]; exact h)]
  simp
theorem key_bits (x0 x1 x2 x3 : UInt8) : bits .or .u32 (bits .or .u32 (bits .or .u32 (bits .or .u32 0 ((x0.toNat : Int) % 4294967296)) ((x1.toNat : Int) % 4294967296 * 256 % 4294967296)) ((x2.toNat : Int) % 4294967296 * 65536 % 4294967296)) ((x3.toNat : Int) % 4294967296 * 16777216 % 4294967296) = ((x0.toNat + 256 * x1.toNat + 65536 * x2.toNat + 16777216 * x3.toNat : Nat) : Int) := by
  have h0 := x0.toNat_lt; have h1 := x1.toNat_lt; have h2 := x2.toNat_lt; have h3 := x3.toNat_lt
  have e0 : (x0.toNat : Int) % 4294967296 = ((x0.toNat : Nat) : Int) * ((1 : Nat) : Int) := by omega
  have e1 : (x1.toNat : Int) % 4294967296 * 256 % 4294967296 = (x1.toNat : Int) * ((256 : Nat) : Int) := by omega
  have e2 : (x2.toNat : Int) % 4294967296 * 65536 % 4294967296 = (x2.toNat : Int) * ((65536 : Nat) : Int) := by omega
  have e3 : (x3.toNat : Int) % 4294967296 * 16777216 % 4294967296 = (x3.toNat : Int) * ((16777216 : Nat) : Int) := by omega
  have ez : (0 : Int) = ((0 : Nat) : Int) := rfl
  rw [e0, e1, e2, e3, ez, or_u32 0 x0.toNat 0 1 (by decide) (by omega) (by omega) (by omega)]
  have f0 : ((0 : Nat) : Int) + (x0.toNat : Int) * ((1 : Nat) : Int) = ((x0.toNat : Nat) : Int) := by omega
  rw [f0, or_u32 x0.toNat x1.toNat 8 256 (by decide) (by omega) (by omega) (by omega)]
  have f1 : (x0.toNat : Int) + (x1.toNat : Int) * ((256 : Nat) : Int) = ((x0.toNat + 256 * x1.toNat : Nat) : Int) := by omega
  rw [f1, or_u32 (x0.toNat + 256 * x1.toNat) x2.toNat 16 65536 (by decide) (by omega) (by omega) (by omega)]
  have f2 : ((x0.toNat + 256 * x1.toNat : Nat) : Int) + (x2.toNat : Int) * ((65536 : Nat) : Int) = ((x0.toNat + 256 * x1.toNat + 65536 * x2.toNat : Nat) : Int) := by omega
  rw [f2, or_u32 (x0.toNat + 256 * x1.toNat + 65536 * x2.toNat) x3.toNat 24 16777216 (by decide) (by omega) (by omega) (by omega)]
  omega
/-- What the key is. -/
def keyV (b : List UInt8) (p : Nat) : Int × Bool := match keyAt b p with | some k => (k, true) | none => (0, false)
theorem keyV_some {b : List UInt8} {p : Nat} (hp : p + 4 ≤ b.length) : keyAt b p = some (b[p].toNat + 256 * b[p + 1].toNat + 65536 * b[p + 2].toNat + 16777216 * b[p + 3].toNat) := by
  unfold keyAt
  rw [List.getElem?_eq_getElem (show p < b.length by omega), List.getElem?_eq_getElem (show p + 1 < b.length by omega), List.getElem?_eq_getElem (show p + 2 < b.length by omega), List.getElem?_eq_getElem (show p + 3 < b.length by omega)]
theorem keyV_none {b : List UInt8} {p : Nat} (hp : b.length < p + 4) : keyAt b p = none := by
  unfold keyAt
  rw [List.getElem?_eq_none (show b.length ≤ p + 3 by omega)]
  split <;> simp_all

set_option maxHeartbeats 1600000 in
theorem chain_key1 (b : List UInt8) (p : Nat) (a : Option Addr) (n c : Nat) (w : World) (hl : rBytes.r (· < w.heap.size) w [.slice a n c] b) (hlen : b.length ≤ 1048576) (hp : p + 4 ≤ b.length) :
    Calls Tryz.prog 387 #[.slice a n c, .int .i64 p] w fun r w' => r = .returned (.tuple #[.int .u32 (keyV b p).1, .bool (keyV b p).2]) ∧ w = w' := by
  have hff : Hid (keyV b p = (((b[p].toNat + 256 * b[p + 1].toNat + 65536 * b[p + 2].toNat + 16777216 * b[p + 3].toNat : Nat) : Int), true)) := hid (by unfold keyV; rw [keyV_some hp])
  obtain ⟨rfl, hm, _, _⟩ := sl_len hl
  obtain ⟨g, o, hA, hg, c0⟩ := byte_at hl (i := p) (by omega)
  obtain ⟨g1, o1, hA1, _, c1⟩ := byte_at hl (i := p + 1) (by omega)
  obtain ⟨g2, o2, hA2, _, c2⟩ := byte_at hl (i := p + 2) (by omega)
  obtain ⟨g3, o3, hA3, _, c3⟩ := byte_at hl (i := p + 3) (by omega)
  subst hA
  simp only [Option.some.injEq, Addr.mk.injEq, and_true] at hA1 hA2 hA3
  obtain ⟨rfl, rfl⟩ := hA1
  obtain ⟨rfl, rfl⟩ := hA2
  obtain ⟨rfl, rfl⟩ := hA3
  have HL := hid hl; clear hl
  have d0 : decide ((p : Int) < 0) = false := by simp
  have d1 : decide ((b.length : Int) - 4 < (p : Int)) = false := by simp; omega
  generalize b[p] = x0 at *
  generalize b[p + 1] = x1 at *
  generalize b[p + 2] = x2 at *
  generalize b[p + 3] = x3 at *
  have i0 : (0 : Int) ≤ (p : Int) := by omega
  have i1 : (p : Int) + 3 < (b.length : Int) := by omega
  have i2 : (p : Int) + 2 < (b.length : Int) := by omega
  have i3 : (p : Int) + 1 < (b.length : Int) := by omega
  have i4 : (p : Int) < (b.length : Int) := by omega
  go_enter Tryz.func387, Tryz.ntmps387
  go_wp2_with fail
  refine wp_loop_rounds 5 ?_
  rw [rounds_succ]
  go_wp2_with fail
  rw [rounds_succ]
  go_wp2_with fail
  rw [rounds_succ]
  go_wp2_with fail
  rw [rounds_succ]
  go_wp2_with fail
  rw [rounds_succ]
  go_wp2_with fail
  go_ret2
  exact ⟨by rw [hff.out, ← key_bits]; rfl, rfl⟩
theorem chain_key0 (b : List UInt8) (p : Nat) (a : Option Addr) (n c : Nat) (w : World) (hl : rBytes.r (· < w.heap.size) w [.slice a n c] b) (hlen : b.length ≤ 1048576) (hp : b.length < p + 4) (hp2 : p ≤ 1048576) :
    Calls Tryz.prog 387 #[.slice a n c, .int .i64 p] w fun r w' => r = .returned (.tuple #[.int .u32 (keyV b p).1, .bool (keyV b p).2]) ∧ w = w' := by
  have hff : Hid (keyV b p = (0, false)) := hid (by unfold keyV; rw [keyV_none hp])
  obtain ⟨rfl, hm, _, _⟩ := sl_len hl
  clear hl
  have d0 : decide ((p : Int) < 0) = false := by simp
  have d1 : decide ((b.length : Int) - 4 < (p : Int)) = true := by simp; omega
  go_enter Tryz.func387, Tryz.ntmps387
  go_wp2
  go_ret2
  exact ⟨by rw [hff.out]; rfl, rfl⟩
theorem chain_key (b : List UInt8) (p : Nat) (a : Option Addr) (n c : Nat) (w : World) (hl : rBytes.r (· < w.heap.size) w [.slice a n c] b) (hlen : b.length ≤ 1048576) (hp : p ≤ 1048576) :
    Calls Tryz.prog 387 #[.slice a n c, .int .i64 p] w fun r w' => r = .returned (.tuple #[.int .u32 (keyV b p).1, .bool (keyV b p).2]) ∧ w = w' := by
  by_cases h : p + 4 ≤ b.length
  · exact chain_key1 b p a n c w hl hlen h
  · exact chain_key0 b p a n c w hl hlen (by omega) hp
end Go.Proofs.YtfddhafbhceoaaaGreat
namespace Go.Bs
open Go.RowKit
set_option linter.unusedVariables false

/-- w' is w but for blocks of F, and new ones. -/
structure Tch (F : Nat → Prop) (w w' : World) : Prop where
  os : w'.os = w.os
  tape : w'.tape = w.tape
  output : w'.output = w.output
  size : w.heap.size ≤ w'.heap.size
  block : ∀ b, b < w.heap.size → ¬ F b → w'.heap[b]? = w.heap[b]?
section
variable {F G : Nat → Prop} {w w' w'' : World}
theorem Tch.refl (F : Nat → Prop) (w : World) : Tch F w w := ⟨rfl, rfl, rfl, Nat.le_refl _, fun _ _ _ => rfl⟩
theorem Tch.trans (h : Tch F w w') (k : Tch G w' w'') (hG : ∀ b, b < w.heap.size → G b → F b) : Tch F w w'' :=
  ⟨k.os.trans h.os, k.tape.trans h.tape, k.output.trans h.output, Nat.le_trans h.size k.size, fun b hb hF => (k.block b (Nat.lt_of_lt_of_le hb h.size) (fun hg => hF (hG b hb hg))).trans (h.block b hb hF)⟩
theorem Tch.mono (h : Tch F w w') (hF : ∀ b, b < w.heap.size → F b → G b) : Tch G w w' := ⟨h.os, h.tape, h.output, h.size, fun b hb hg => h.block b hb (fun hf => hg (hF b hb hf))⟩
theorem Tch.of_below {B : Nat} (h : Below B w w') : Tch (fun b => B ≤ b) w w' := ⟨h.os, h.tape, h.output, h.size, fun b hb hf => h.block b (by omega)⟩
theorem Tch.of_later (h : Below w.heap.size w w') : Tch F w w' := ⟨h.os, h.tape, h.output, h.size, fun b hb _ => h.block b hb⟩
theorem Tch.of_grown {row : Option Nat} (h : w.grownBy w' row) : Tch (fun b => row = some b) w w' := ⟨h.os, h.tape, h.output, h.size, fun b hb hf => h.block b hb (fun e => hf e.symm)⟩
theorem Tch.alloc (h : Tch F w w') (o : Obj) : Tch F w (w'.alloc o) := h.trans (Tch.of_later (F := F) ((Below.refl _ _).alloc (Nat.le_refl _) o)) fun _ _ h => h
theorem Tch.drew (h : Tch F w w') : Tch F w w'.drew := ⟨h.os, h.tape, h.output, h.size, h.block⟩
theorem Tch.drewN (h : Tch F w w') (n : Nat) : Tch F w (w'.drewN n) := ⟨h.os, h.tape, h.output, h.size, h.block⟩
theorem Tch.setCell (h : Tch F w w') {p : Addr} (hp : p.block < w.heap.size → F p.block) (u : Value) : Tch F w (w'.setCell p u) :=
  ⟨h.os, h.tape, h.output, by simpa [World.setCell] using h.size, fun b hb hf => (Below.heap_setCell w' p u b (fun e => hf (e ▸ hp (e ▸ hb)))).trans (h.block b hb hf)⟩
theorem Tch.below {B : Nat} (h : Tch F w w') (hF : ∀ b, b < w.heap.size → F b → B ≤ b) : Below B w w' ∨ w.heap.size < B := by
  by_cases hB : B ≤ w.heap.size
  · exact .inl ⟨h.os, h.tape, h.output, h.size, fun b hb => h.block b (by omega) (fun hf => by have := hF b (by omega) hf; omega)⟩
  · exact .inr (by omega)
theorem Tch.to_below {B : Nat} (h : Tch F w w') (hB : B ≤ w.heap.size) (hF : ∀ b, b < w.heap.size → F b → B ≤ b) : Below B w w' := (h.below hF).resolve_right (by omega)
theorem Tch.cell (h : Tch F w w') {p : Addr} (hb : p.block < w.heap.size) (hf : ¬ F p.block) : w'.cell? p = w.cell? p := World.cell?_of_block (h.block _ hb hf)
theorem Tch.frozen (h : Tch F w w') {p : Addr} (hb : p.block < w.heap.size) (hf : ¬ F p.block) : w'.frozen? p = w.frozen? p := World.frozen?_of_block (h.block _ hb hf)
theorem Blk.tch {g : Nat} {t : TypeId} {cs : Array Value} (h : Blk w g t cs) (k : Tch F w w') (hf : ¬ F g) : Blk w' g t cs := (k.block g h.lt hf).trans h
theorem src_new1 {w : World} (W : World) (e : TypeId) (cs : List Value) (hB : w = W.alloc (.cells cs.toArray e)) {g : Nat} (hg : g = W.heap.size) {sz : Nat} (hs : cs.length = sz) : Src w (some ⟨g, 0, none⟩) 1 sz cs := by
  subst hB hg
  refine ⟨by omega, .inr ⟨_, 0, rfl, fun j u hu => ?_⟩⟩
  rw [Nat.zero_add, Blk.cell (Blk.new W e cs.toArray)]
  simpa using hu
end
end Go.Bs
namespace Go.Proofs.YtfddhafbhceoaaaGreat
open Go.RowKit Go.Bs Go.Maps
set_option linter.unusedVariables false
set_option linter.unusedSimpArgs false

def prevN (b : List UInt8) (j : Nat) : Nat := match keyAt b j with | some k => lastP b k j | none => 0
def prevs (b : List UInt8) (n : Nat) : List Value := (List.range n).map fun j => .int .i64 (prevN b j : Int)
theorem prevs_succ (b : List UInt8) (n : Nat) : prevs b (n + 1) = prevs b n ++ [.int .i64 (prevN b n : Int)] := by simp [prevs, List.range_succ]
theorem prevs_length (b : List UInt8) (n : Nat) : (prevs b n).length = n := by simp [prevs]
def LastsAt (D : DataW Unit) (b : List UInt8) (n : Nat) : Prop := ∀ k : Nat, k < 4294967296 → D.atKey (.int .u32 (k : Int)) (.lit (.int .i64 0)) = .lit (.int .i64 (lastP b k n : Int))
theorem u32_wf {k : Nat} (h : k < 4294967296) : (Lit.int .u32 (k : Int)).wf = true := by
  simp [Lit.wf, IntKind.min, IntKind.max, IntKind.signed, IntKind.bits]; omega
theorem keyAt_lt {b : List UInt8} {p k : Nat} (h : keyAt b p = some k) : k < 4294967296 := by
  by_cases hp : p + 4 ≤ b.length
  · rw [keyV_some hp] at h
    have h0 := b[p].toNat_lt; have h1 := b[p + 1].toNat_lt; have h2 := b[p + 2].toNat_lt; have h3 := b[p + 3].toNat_lt
    simp only [Option.some.injEq] at h
    omega
  · rw [keyV_none (by omega)] at h; cases h
theorem LastsAt.none {D : DataW Unit} {b : List UInt8} {n : Nat} (h : LastsAt D b n) (hk : keyAt b n = none) : LastsAt D b (n + 1) := fun k hlt => by
  rw [h k hlt]
  simp only [lastP]
  rw [hk, if_neg (by simp)]
theorem LastsAt.some {D : DataW Unit} {b : List UInt8} {n k : Nat} (h : LastsAt D b n) (hD : IsMap D) (hk : keyAt b n = some k) : LastsAt (D.put (.int .u32 (k : Int)) (.lit (.int .i64 ((n : Int) + 1)))) b (n + 1) := fun k' hlt => by
  by_cases e : k' = k
  · subst e
    rw [atKey_put_same hD (by trivial)]
    simp only [lastP]
    rw [if_pos hk]; simp
  · rw [atKey_put_other (by simp; omega), h k' hlt]
    simp only [lastP]
    rw [if_neg (by rw [hk]; simp; omega)]

/-- Block g is a chain of the bytes b to which n places were added. -/
structure ChAt (w : World) (g mb base : Nat) (b : List UInt8) (n : Nat) (ab : Option Addr) (cb : Nat) (ap : Option Addr) (cp : Nat) : Prop where
  blk : Blk w g 395 #[.slice ab b.length cb, .map (some mb), .slice ap n cp]
  bytes : rBytes.r (fun q => q < w.heap.size ∧ q ≠ g ∧ q ≠ mb ∧ (Value.slice ap n cp).ownBlock ≠ some q) w [.slice ab b.length cb] b
  map : ∃ D : DataW Unit, w.ownsMap Tryz.prog 142 (plainElem Tryz.prog 3) mb n D ∧ LastsAt D b n
  prev : w.ownsRow base 3 1 (.slice ap n cp) n (prevs b n)
  ne1 : g ≠ mb
  ne2 : (Value.slice ap n cp).ownBlock ≠ some g
  ne3 : (Value.slice ap n cp).ownBlock ≠ some mb
  lo : base ≤ g
  le : n ≤ b.length
  len : b.length ≤ 1048576
theorem infoInt : (Tryz.prog.info? 3).map (fun i => (i.zero, i.size, i.bytes)) = some (some (.int .i64 0), 1, 8) := by kernel_rfl
theorem zeroInt (w : World) : (zeroValue 3).run Tryz.prog w = .ok (.int .i64 0) w := by kernel_rfl
theorem lawU32 : Keyed Tryz.prog 142 := int_keyed Tryz.underlying142

theorem chain_added (w : World) {g mb base : Nat} {b : List UInt8} {n : Nat} {ab : Option Addr} {cb : Nat} {ap : Option Addr} {cp : Nat} (h : ChAt w g mb base b n ab cb ap cp) :
    Calls Tryz.prog 384 #[.pointer (some ⟨g, 0, none⟩)] w fun r w' => r = .returned (.int .i64 n) ∧ w = w' := by
  have c2 : w.cell? ⟨g, 2, none⟩ = some (.slice ap n cp) := h.blk.cell 2
  clear h
  go_enter Tryz.func384, Tryz.ntmps384
  go_wp2
  go_ret
  exact ⟨rfl, rfl⟩

/-- What an Add leaves. -/
def ChStep (w : World) (g mb base : Nat) (b : List UInt8) (n n' : Nat) (ab : Option Addr) (cb : Nat) (ap : Option Addr) (cp : Nat) (w' : World) : Prop :=
  ∃ ap' cp', ChAt w' g mb base b n' ab cb ap' cp' ∧ Tch (fun q => q = g ∨ q = mb ∨ (Value.slice ap n cp).ownBlock = some q) w w' ∧ ((Value.slice ap' n' cp').ownBlock = (Value.slice ap n cp).ownBlock ∨ ∃ q, (Value.slice ap' n' cp').ownBlock = some q ∧ w.heap.size ≤ q)
def AddPost (w : World) (g mb base : Nat) (b : List UInt8) (n : Nat) (ab : Option Addr) (cb : Nat) (ap : Option Addr) (cp : Nat) (r : Ending) (w' : World) : Prop := r = .returned (.bool true) ∧ ChStep w g mb base b n (n + 1) ab cb ap cp w'

theorem map_keep {w w' : World} {K : TypeId} {R : Value → Option (DataW Unit × List MemPlace)} {m n : Nat} {D : DataW Unit} (h : w.ownsMap Tryz.prog K R m n D) (e : w'.heap[m]? = w.heap[m]?) : w'.ownsMap Tryz.prog K R m n D := by
  obtain ⟨es, clock, hb, F, hs, hD⟩ := h
  exact ⟨es, clock, e.trans hb, F, hs, hD⟩
theorem own_keep {w w' : World} {base : Nat} {e : TypeId} {size : Nat} {v : Value} {n : Nat} {xs : List Value} (h : w.ownsRow base e size v n xs) (hv : ∀ g, v.ownBlock = some g → w'.heap[g]? = w.heap[g]?) : w'.ownsRow base e size v n xs := by
  refine ⟨h.1, ?_⟩
  rcases h.2 with h0 | ⟨g, cap, cur, h1, h2, h3, h4⟩
  · exact .inl h0
  · exact .inr ⟨g, cap, cur, h1, h2, by rw [hv g (by rw [h1]; rfl)]; exact h3, h4⟩
theorem ch_next {w w0 w1 : World} {g mb base : Nat} {b : List UInt8} {n : Nat} {ab : Option Addr} {cb : Nat} {ap : Option Addr} {cp : Nat} {a' : Option Addr} {c' : Nat} {o : Obj} (h : ChAt w g mb base b n ab cb ap cp) (hn : n < b.length) (h0 : Tch (fun q => q = mb) w w0)
    (hmap : ∃ D : DataW Unit, w0.ownsMap Tryz.prog 142 (plainElem Tryz.prog 3) mb (n + 1) D ∧ LastsAt D b (n + 1))
    (hown : w1.ownsRow base 3 1 (.slice a' (n + 1) c') (n + 1) (prevs b n ++ [.int .i64 (prevN b n : Int)])) (hgrow : (w0.alloc o).grownBy w1 (Value.slice ap n cp).ownBlock)
    (hat : (Value.slice a' (n + 1) c').ownBlock = (Value.slice ap n cp).ownBlock ∨ (Value.slice a' (n + 1) c').ownBlock = some (w0.alloc o).heap.size) :
    ChStep w g mb base b n (n + 1) ab cb ap cp (w1.setCell ⟨g, 2, none⟩ (.slice a' (n + 1) c')) := by
  have hg := h.blk.lt
  have hs0 := h0.size
  have hs1 : w0.heap.size + 1 ≤ w1.heap.size := by have := hgrow.size; simpa using this
  have hn2 : (Value.slice a' (n + 1) c').ownBlock ≠ some g := fun e => by
    rcases hat with h1 | h1
    · rw [h1] at e; exact h.ne2 e
    · rw [h1] at e; simp at e; omega
  have hmlt : mb < w0.heap.size := by obtain ⟨D, hD, _⟩ := hmap; exact hD.lt
  have keep : ∀ q, q < w0.heap.size → q ≠ g → (Value.slice ap n cp).ownBlock ≠ some q → (w1.setCell ⟨g, 2, none⟩ (.slice a' (n + 1) c')).heap[q]? = w0.heap[q]? := fun q hq h1 h2 =>
    (Below.heap_setCell w1 _ _ q h1).trans ((hgrow.block q (by simp; omega) (fun e => h2 e.symm)).trans (Below.heap_alloc w0 _ q hq))
  have hsz : (w1.setCell ⟨g, 2, none⟩ (.slice a' (n + 1) c')).heap.size = w1.heap.size := by simp [World.setCell]
  refine ⟨a', c', ⟨?_, ?_, ?_, ?_, h.ne1, hn2, fun e => ?_, h.lo, by omega, h.len⟩, ?_, ?_⟩
  · have B0 := h.blk.tch h0 h.ne1
    have B1 : Blk w1 g _ _ := (B0.alloc o).grown hgrow (fun e => h.ne2 e.symm)
    exact B1.set 2 _
  · refine rBytes.mono (rBytes.keep h.bytes fun q hq => (keep q (by omega) hq.2.1 hq.2.2.2).trans (h0.block q hq.1 hq.2.2.1)) fun q hq => ⟨by rw [hsz]; omega, hq.2.1, hq.2.2.1, fun e => ?_⟩
    rcases hat with h1 | h1
    · rw [h1] at e; exact hq.2.2.2 e
    · rw [h1] at e; simp at e; omega
  · obtain ⟨D, hD, hL⟩ := hmap
    exact ⟨D, map_keep hD (keep mb hmlt (Ne.symm h.ne1) h.ne3), hL⟩
  · rw [prevs_succ]
    exact own_keep hown fun q hq => Below.heap_setCell w1 _ _ q (fun e => hn2 (by rw [hq, e]))
  · rcases hat with h1 | h1
    · rw [h1] at e; exact h.ne3 e
    · rw [h1] at e; simp at e; omega
  · exact ⟨hgrow.os.trans h0.os, hgrow.tape.trans h0.tape, hgrow.output.trans h0.output, by rw [hsz]; omega, fun q hq hf => (keep q (by omega) (fun e => hf (.inl e)) (fun e => hf (.inr (.inr e)))).trans (h0.block q hq (fun e => hf (.inr (.inl e))))⟩
  · rcases hat with h1 | h1
    · exact .inl h1
    · exact .inr ⟨_, h1, by simp; omega⟩

set_option maxRecDepth 100000 in
set_option maxHeartbeats 1600000 in
theorem chain_add (w : World) {g mb base : Nat} {b : List UInt8} {n : Nat} {ab : Option Addr} {cb : Nat} {ap : Option Addr} {cp : Nat} (h : ChAt w g mb base b n ab cb ap cp) (hn : n < b.length) :
    Calls Tryz.prog 385 #[.pointer (some ⟨g, 0, none⟩)] w (AddPost w g mb base b n ab cb ap cp) := by
  have hbk := h.blk
  have c0 : w.cell? ⟨g, 0, none⟩ = some (.slice ab b.length cb) := h.blk.cell 0
  have c1 : w.cell? ⟨g, 1, none⟩ = some (.map (some mb)) := h.blk.cell 1
  have c2 : w.cell? ⟨g, 2, none⟩ = some (.slice ap n cp) := h.blk.cell 2
  have f2 := h.blk.free 2
  have hg := h.blk.lt
  obtain ⟨D, hmap, hD⟩ := h.map
  have hprev := h.prev
  obtain ⟨ne1, ne2, ne3⟩ : g ≠ mb ∧ (Value.slice ap n cp).ownBlock ≠ some g ∧ (Value.slice ap n cp).ownBlock ≠ some mb := ⟨h.ne1, h.ne2, h.ne3⟩
  have hlen := h.len
  have hlo := h.lo
  have hA := chain_added w h
  have hK := chain_key b n ab _ cb w (rBytes.mono h.bytes fun q hq => hq.1) h.len (by omega)
  obtain ⟨i0, hi, hz0, hz1, hz2⟩ := info_parts infoInt
  have HH := hid h; have HM := hid hmap; have HD := hid hD; have HP := hid hprev; have HB := hid hbk
  have HA := hid hA; have HKE := hid hK
  clear h hmap hD hprev hA hK hbk
  have hkv : Hid (keyV b n = match keyAt b n with | some k => ((k : Int), true) | none => (0, false)) := hid rfl
  have d1 : decide ((b.length : Int) ≤ (n : Int)) = false := by simp; omega
  have d1' : decide (b.length ≤ n) = false := by simp; omega
  cases hk : keyAt b n with
  | none =>
    have hv : keyV b n = (0, false) := by rw [hkv.out, hk]
    rw [hv] at HKE
    have hpn : prevN b n = 0 := by unfold prevN; rw [hk]
    have HK := hid hk; have HPN := hid hpn
    clear hk hv hkv hpn
    go_enter Tryz.func385, Tryz.ntmps385
    go_wp2_with fail
    refine HA.out.mono ?_
    rintro r w1 ⟨rfl, rfl⟩
    go_wp2_with fail
    refine HKE.out.mono ?_
    rintro r w1 ⟨rfl, rfl⟩
    go_wp2_with (at_builtin; go_loud (refine wpList_append_src rfl _ _ _ rfl base 3 i0 (.int .i64 0) 1 8 Tryz.underlying176 hi hz0 hz1 hz2 rfl (by decide) (.slice ap n cp) n _ rfl (HP.out.alloc _) (some ⟨w.heap.size, 0, none⟩) 1 1 [.int .i64 0] rfl (src_new1 w 3 _ rfl rfl rfl) (by intro u hu; simp at hu; subst hu; rfl) (by simp only [maxLen]; omega) (by omega) (by simp; omega) ?_; intro v' w1 hown1 hgrow1 hat1; obtain ⟨a', c', rfl⟩ := own_form hown1; have G := fun q (hq : q < w.heap.size) (hne : (Value.slice ap n cp).ownBlock ≠ some q) => (hgrow1.block q (by simp; omega) (fun e => hne e.symm)).trans (Below.heap_alloc w _ q hq); have hB := HB.out.later (Below.refl _ _); have g2 := (World.frozen?_of_block (a := ⟨g, 2, none⟩) (G g hg ne2)).trans f2; have e2 := (World.cell?_of_block (a := ⟨g, 2, none⟩) (G g hg ne2)).trans c2; have hz1 : g < w1.heap.size := Nat.lt_of_lt_of_le hg (Nat.le_trans (by simp) hgrow1.size); have HG := hid hgrow1; have HO := hid hown1; have HAT := hid hat1; have HGG := hid G; clear hgrow1 hown1 hat1 G hB))
    have hst := ch_next HH.out hn (Tch.refl _ w) (by
      obtain ⟨D, h1, h2⟩ := HH.out.map
      exact ⟨D, h1.mono (Nat.le_succ n), h2.none HK.out⟩) (by rw [HPN.out]; exact HO.out) HG.out HAT.out
    have HST := hid hst; clear hst
    go_ret
    exact ⟨rfl, HST.out⟩
  | some k =>
    have hv : keyV b n = ((k : Int), true) := by rw [hkv.out, hk]
    rw [hv] at HKE
    have hpn : prevN b n = lastP b k n := by unfold prevN; rw [hk]
    have hklt := keyAt_lt hk
    have HK := hid hk; have HPN := hid hpn
    have HW := hid (u32_wf hklt)
    clear hk hv hkv hpn hklt
    go_enter Tryz.func385, Tryz.ntmps385
    go_wp2_with fail
    refine HA.out.mono ?_
    rintro r w1 ⟨rfl, rfl⟩
    go_wp2_with fail
    refine HKE.out.mono ?_
    rintro r w1 ⟨rfl, rfl⟩
    have HWF : Hid ((Lit.int .i64 ((n : Int) + 1)).wf = true) := hid (by simp [Lit.wf, IntKind.min, IntKind.max, IntKind.signed, IntKind.bits]; omega)
    go_wp2_with (first
      | (at_lookup; go_loud (refine wpList_lookup_own_int _ rfl _ _ 393 rfl 142 3 .i64 lawU32 Tryz.underlying393 Tryz.underlying3 (zeroInt _) mb n D rfl HM.out _ _ rfl (keyOf_int_mk Tryz.underlying142 HW.out) ?_; intro c hat hwc; have hc : c = (lastP b k n : Int) := (by have := HD.out k (by have := HW.out; simp [Lit.wf, IntKind.max, IntKind.signed, IntKind.bits] at this; omega); rw [hat] at this; simpa using this); subst hc; clear hat hwc))
      | (at_mapUpdate; go_loud (refine wpList_mapUpdate_own _ rfl _ _ _ 393 rfl 142 3 lawU32 Tryz.underlying393 _ mb n _ rfl HM.out (by unfold maxLen; omega) _ _ _ rfl rfl (keyOf_int_mk Tryz.underlying142 HW.out) _ [] (plainElem_int Tryz.underlying3 HWF.out) ?_; intro w2 hown2 hgrow2; have hnm : some g ≠ some mb := fun e => ne1 (Option.some.inj e); have hg2 : g < w2.heap.size := Nat.lt_of_lt_of_le hg hgrow2.size; have c2b := (World.cell?_of_block (a := ⟨g, 2, none⟩) (hgrow2.block g hg hnm)).trans c2; have f2b := (World.frozen?_of_block (a := ⟨g, 2, none⟩) (hgrow2.block g hg hnm)).trans f2; have HP2 := hid (own_keep (w' := w2) HP.out fun q hq => hgrow2.block q (HP.out.lt q hq).2 (fun e => ne3 (hq.trans e))); have HG2 := hid hgrow2; have HM2 := hid hown2; clear hown2 hgrow2 hnm))
      | (at_builtin; go_loud (refine wpList_append_src rfl _ _ _ rfl base 3 i0 (.int .i64 0) 1 8 Tryz.underlying176 hi hz0 hz1 hz2 rfl (by decide) (.slice ap n cp) n _ rfl (HP2.out.alloc _) (some ⟨w2.heap.size, 0, none⟩) 1 1 [.int .i64 (lastP b k n : Int)] rfl (src_new1 w2 3 _ rfl rfl rfl) (by intro u hu; simp at hu; subst hu; rfl) (by simp only [maxLen]; omega) (by omega) (by simp; omega) ?_; intro v' w1 hown1 hgrow1 hat1; obtain ⟨a', c', rfl⟩ := own_form hown1; have G := fun q (hq : q < w2.heap.size) (hne : (Value.slice ap n cp).ownBlock ≠ some q) => (hgrow1.block q (by simp; omega) (fun e => hne e.symm)).trans (Below.heap_alloc w2 _ q hq); have g2 := (World.frozen?_of_block (a := ⟨g, 2, none⟩) (G g hg2 ne2)).trans f2b; have e2 := (World.cell?_of_block (a := ⟨g, 2, none⟩) (G g hg2 ne2)).trans c2b; have hz1 : g < w1.heap.size := Nat.lt_of_lt_of_le hg2 (Nat.le_trans (by simp) hgrow1.size); have HG := hid hgrow1; have HO := hid hown1; have HAT := hid hat1; have HGG := hid G; clear hgrow1 hown1 hat1 G)))
    have hst := ch_next HH.out hn ((Tch.of_grown HG2.out).mono fun q _ e => (Option.some.inj e).symm) ⟨_, HM2.out, HD.out.some HM.out.isMap HK.out⟩ (by rw [HPN.out]; exact HO.out) HG.out HAT.out
    have HST := hid hst; clear hst
    go_ret
    exact ⟨rfl, HST.out⟩

theorem ChStep.trans {w w1 w2 : World} {g mb base : Nat} {b : List UInt8} {n m k : Nat} {ab : Option Addr} {cb : Nat} {ap a1 : Option Addr} {cp c1 : Nat} (h : Tch (fun q => q = g ∨ q = mb ∨ (Value.slice ap n cp).ownBlock = some q) w w1)
    (ho : (Value.slice a1 m c1).ownBlock = (Value.slice ap n cp).ownBlock ∨ ∃ q, (Value.slice a1 m c1).ownBlock = some q ∧ w.heap.size ≤ q) (k' : ChStep w1 g mb base b m k ab cb a1 c1 w2) : ChStep w g mb base b n k ab cb ap cp w2 := by
  obtain ⟨a2, c2, h1, h2, h3⟩ := k'
  refine ⟨a2, c2, h1, h.trans h2 fun q hq e => ?_, ?_⟩
  · rcases e with e | e | e
    · exact .inl e
    · exact .inr (.inl e)
    · rcases ho with ho | ⟨q', hq', hlt⟩
      · exact .inr (.inr (ho ▸ e))
      · rw [hq'] at e; have := Option.some.inj e; omega
  · rcases h3 with h3 | ⟨q', hq', hlt⟩
    · rcases ho with ho | ⟨q', hq', hlt⟩
      · exact .inl (h3.trans ho)
      · exact .inr ⟨q', h3.trans hq', hlt⟩
    · exact .inr ⟨q', hq', Nat.le_trans h.size hlt⟩
theorem ChStep.refl {w : World} {g mb base : Nat} {b : List UInt8} {n : Nat} {ab : Option Addr} {cb : Nat} {ap : Option Addr} {cp : Nat} (h : ChAt w g mb base b n ab cb ap cp) : ChStep w g mb base b n n ab cb ap cp w := ⟨ap, cp, h, Tch.refl _ _, .inl rfl⟩
def AddToPost (w : World) (g mb base : Nat) (b : List UInt8) (n m : Nat) (ab : Option Addr) (cb : Nat) (ap : Option Addr) (cp : Nat) (r : Ending) (w' : World) : Prop := r = .returned (.int .i64 ((m : Int) - n)) ∧ ChStep w g mb base b n m ab cb ap cp w'

set_option maxRecDepth 100000 in
set_option maxHeartbeats 1600000 in
theorem chain_addTo (w : World) {g mb base : Nat} {b : List UInt8} {n : Nat} {ab : Option Addr} {cb : Nat} {ap : Option Addr} {cp : Nat} (h : ChAt w g mb base b n ab cb ap cp) (m : Nat) (hn : n ≤ m) (hm : m ≤ b.length) :
    Calls Tryz.prog 379 #[.pointer (some ⟨g, 0, none⟩), .int .i64 m] w (AddToPost w g mb base b n m ab cb ap cp) := by
  have hlen := h.len
  have HS := hid (ChStep.refl h)
  clear h
  go_enter Tryz.func379, Tryz.ntmps379
  go_wp2_with fail
  go_loopw [5] (fun i wr => ∃ k : Nat, n + k ≤ m ∧ i = .int .i64 k ∧ Hid (ChStep w g mb base b n (n + k) ab cb ap cp wr)) (fun i _ => m - (intOf i).toNat)
  case atStart => exact ⟨0, hn, rfl, HS⟩
  case round =>
    obtain ⟨k, hk, rfl, hst⟩ := hrel
    clear HS
    obtain ⟨a1, c1, h1, h2, h3⟩ := hst.out
    have HA := hid (chain_added wr h1)
    have HT := hid h2; have HO := hid h3; have H1 := hid h1
    clear h1 h2 h3
    by_cases hlt : n + k < m
    · have hAdd := hid (chain_add wr H1.out (by omega))
      have d1 : decide (((n + k : Nat) : Int) < (m : Int)) = true := by simp; omega
      have d2 : decide ((n : Int) + (k : Int) < (m : Int)) = true := by simp; omega
      have d3 : decide (n + k < m) = true := by simp; omega
      go_wp2_with fail
      refine HA.out.mono ?_
      rintro r w1 ⟨rfl, rfl⟩
      go_wp2_with fail
      refine hAdd.out.mono ?_
      rintro r w1 ⟨rfl, hs1⟩
      have HS1 := hid (ChStep.trans HT.out HO.out hs1)
      clear hs1
      go_wp2
      go_roundw
      case rel => first | exact ⟨k + 1, by omega, by go_num, HS1⟩ | ((repeat apply Exists.intro); refine ⟨?_, ?_⟩; rotate_left; rfl; exact ⟨k + 1, by omega, by go_num, HS1⟩)
      case measure => simp [intOf]; omega
    · obtain rfl : m = n + k := by omega
      have d1 : decide (((n + k : Nat) : Int) < ((n + k : Nat) : Int)) = false := by simp
      have d2 : decide ((n : Int) + (k : Int) < (n : Int) + (k : Int)) = false := by simp
      have hff : Hid (((n + k : Nat) : Int) - (n : Int) = (k : Int)) := hid (by omega)
      go_wp2_with fail
      refine HA.out.mono ?_
      rintro r w1 ⟨rfl, rfl⟩
      go_wp2
      go_ret
      exact ⟨by rw [hff.out]; rfl, hst.out⟩
end Go.Proofs.YtfddhafbhceoaaaGreat
namespace Go.Bs
open Go.RowKit
set_option linter.unusedVariables false

def noDefer (o : Oper) : Bool := match o.op with | .defer _ => false | _ => true
section
variable {F : Fence} {n : Nat} {P : Program} {ops : Array Oper} {md : Region.Mode} {C : World → Prop}
theorem noDefer_spec {o : Oper} (h : noDefer o = true) : ∀ c, o.op ≠ .defer c := fun c e => by
  unfold noDefer at h
  rw [e] at h
  cases h
theorem wpIn_of_quiet_r {o : Oper} {a : Act} {K : Act → Prop} {K' : Act → World → Prop} {Q' : Exit → Act → World → Prop} {w : World} (hd : noDefer o = true) (hw : C w) (h : ∀ a w', C w' → K a → K' a w')
    (ha : o.askedIn F P a C) (hh : o.quietIn F n P a C K) : o.wpIn F n P a w K' Q' := by
  obtain ⟨v, h1, h2⟩ := hh
  have h3 := h1 w hw
  unfold Oper.quietAtIn at h3
  unfold Oper.wpIn
  refine ⟨ha w hw, ?_⟩
  rw [Oper.semAt_eq _ _ _ (noDefer_spec hd)]
  generalize (execOp a.eval o).run P w = r at *
  cases r with
  | ok x w' =>
    cases x <;> simp only [Oper.quietUponIn] at h3 <;> simp only [Oper.uponIn]
    case value u =>
      obtain ⟨e1, e2⟩ := h3
      rw [e1, e2]
      exact h _ _ hw h2
    case skip =>
      obtain ⟨e1, e2⟩ := h3
      rw [e1, ← e2]
      exact h _ _ hw h2
    case enter f args =>
      obtain ⟨e1, hd, hc⟩ := h3
      rw [e1]
      exact ⟨hd, hc.mono fun e w'' ⟨he, hw''⟩ => by subst he; exact h _ _ hw'' h2⟩
  | halt x w' => simp only [Oper.quietUponIn] at h3
theorem wpOpIn_of_qOpIn_r {i : Nat} {a : Act} {K : Act → Prop} {K' : Act → World → Prop} {Q' : Exit → Act → World → Prop} {w : World} (hd : ops.all noDefer = true) (hC : C w) (h : ∀ a w', C w' → K a → K' a w')
    (hh : qOpIn F n P ops C i K a) : wpOpIn F n P ops Q' i K' a w := by
  unfold qOpIn at hh
  unfold wpOpIn
  split
  · rename_i ho; simp only [ho] at hh; exact h _ _ hC hh
  · rename_i o ho
    have hdo : noDefer o = true := by
      have := Array.all_eq_true'.1 hd o (Array.mem_of_getElem? ho)
      exact this
    simp only [ho] at hh
    obtain ⟨ha, hh⟩ := hh
    split
    · rename_i hw; simp only [hw, if_true] at hh; exact wpIn_of_quiet_r hdo hC h ha hh
    · rename_i hw; simp only [hw] at hh; exact ⟨ha w hC, h _ _ hC hh⟩
theorem wpAnyIn_of_quiet_r {Q : Act → Prop} {Q' : Exit → Act → World → Prop} (hd : ops.all noDefer = true) (hQ : ∀ a w, C w → Q a → Q' .normal a w) : ∀ (fuel : Nat) (listed : Array Bool) (a : Act) (w : World), C w →
    wpAnyQIn F n P md ops C Q fuel listed a → wpAnyIn F n P md ops Q' fuel listed a w
  | 0, _, _, _, hw, h => ⟨h.1, hQ _ _ hw h.2⟩
  | fuel + 1, _, _, _, hw, h => ⟨fun h0 => hQ _ _ hw (h.1 h0), fun i hi => wpOpIn_of_qOpIn_r hd hw (fun a' w' hw' => wpAnyIn_of_quiet_r hd hQ fuel _ a' w' hw') (h.2 i hi)⟩
theorem wpIn_region_round {id : Nat} {Q : Exit → Act → World → Prop} {a : Act} {w : World} {l : List Oper} (C : World → Prop) (hm : P.follows .mixedOrders = true) (hd : l.toArray.all noDefer = true) (hB : Region.lexB .any l.toArray = true) (hC : C w.drew)
    (h : wpQuietIn F n P l.toArray C (fun a' => ∀ w', C w' → Q .normal a' w') l a) : (Code.region id l.toArray true).wpIn F n P Q a w := by
  simp only [Region.lexB, Bool.and_eq_true] at hB
  refine wpIn_region_any hm (wpAnyIn_of_quiet_r (Q := fun a' => ∀ w', C w' → Q .normal a' w') hd (fun _ w' hw' h => h w' hw') _ _ _ _ hC ?_)
  have := wpAnyQIn_lex (F := F) (n := n) (C := C) (md := .any) hB.1 l 0 (Array.replicate l.toArray.size false) a (by simp) (by simpa using hB.2) h
  simpa using this
theorem wpIn_region_rlater {id : Nat} {Q : Exit → Act → World → Prop} {a : Act} {w : World} {l : List Oper} (hm : P.follows .mixedOrders = true) (hd : l.toArray.all noDefer = true) (hB : Region.lexB .any l.toArray = true)
    (h : wpQuietIn F n P l.toArray (fun w' => ∃ s : Later w, w' = s.at_) (fun a' => ∀ w', (∃ s : Later w, w' = s.at_) → Q .normal a' w') l a) : (Code.region id l.toArray true).wpIn F n P Q a w :=
  wpIn_region_round _ hm hd hB ⟨⟨w.drew, (Below.refl _ _).drew⟩, rfl⟩ h
theorem wpIn_region_rdrawn {id : Nat} {Q : Exit → Act → World → Prop} {a : Act} {w : World} {l : List Oper} (hm : P.follows .mixedOrders = true) (hd : l.toArray.all noDefer = true) (hB : Region.lexB .any l.toArray = true)
    (h : wpQuietIn F n P l.toArray (fun w' => ∃ n, w' = w.drewN n) (fun a' => ∀ w', (∃ n, w' = w.drewN n) → Q .normal a' w') l a) : (Code.region id l.toArray true).wpIn F n P Q a w :=
  wpIn_region_round _ hm hd hB ⟨1, rfl⟩ h
theorem wide_d {p : Prop} (h : Fence.wide.depth.isSome = true) : p := by simp [Fence.wide] at h
theorem laterIn_of {n : Nat} {f : FuncId} {args : Array Value} {w : World} {s : Later w} {v : Value} {l : Nat}
    (h : Calls P f args s.at_ fun e w' => e = .returned v ∧ Below s.at_.heap.size s.at_ w') : CallsIn (Fence.wide.inRound l) n P f args s.at_ fun e w'' => e = .returned v ∧ ∃ s' : Later w, w'' = s'.at_ :=
  CallsIn.inRound l (callsIn_wide.2 (later_of h))
theorem wp_region_still_drew {id : Nat} {Q : Exit → Act → World → Prop} {a : Act} {w : World} {l : List Oper} (n : Nat) (hm : P.follows .mixedOrders = true) (hB : Region.lexTailB .any l.toArray n = true)
    (h : wpStill P l.toArray w.drew (fun a' => wpList P l.toArray Q (l.drop n) a' w.drew) (l.take n) a) : (Code.region id l.toArray true).wp P Q a w := wp_region_still_tail n hm hB h
theorem wpIn_world {c : Code} {Q : Exit → Act → World → Prop} {a : Act} {w : World} (G : World → Prop) (hG : G w) (h : ∀ W, G W → c.wpIn F n P Q a W) : c.wpIn F n P Q a w := h w hG
theorem keepsFrom_tch {B : Nat} {G : Nat → Prop} {W W' : World} (h : Tch G W W') (hF : ∀ q, G q → q < B) : KeepsFrom B W W' :=
  ⟨h.size, fun k o hB hk _ => (h.block k (Array.getElem?_eq_some_iff.1 hk).1 (fun e => by have := hF k e; omega)).trans hk⟩
end
end Go.Bs
