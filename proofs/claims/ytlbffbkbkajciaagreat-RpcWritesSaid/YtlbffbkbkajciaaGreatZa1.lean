/- Needed by bodyWrites_walk, part 1: texts put together by shake.py; no condition. -/
import Derived.WalkKit
import Derived.WalkLawsBesides
import Derived.WalkSpells
import Derived.Outline
import Derived.BigQuiet
import Derived.Deep.QuietTactic
import Derived.ProofKit
import Derived.OpenShut
import Derived.Deep.Slices
import Derived.Lib.SmallJoins
import Derived.Test.YtlbffbkbkajciaaGreatRows
import Derived.Deep.AppendLies
import Derived.Laws.IdiomStrings
import Derived.Laws.BytesArg
import Derived.Maps.AppendAt
namespace Go.Bs
open Go.RowKit

theorem hid {p : Prop} (h : p) : Hid p := h

theorem below_alloc {a W : World} (h : Below a.heap.size a W) (o : Obj) : Below a.heap.size a (W.alloc o) := h.alloc h.size _
theorem below_drewN {B : Nat} {a w : World} (h : Below B a w) (n : Nat) : Below B a (w.drewN n) := ⟨h.os, h.tape, h.output, h.size, h.block⟩
theorem below_then {a W w' : World} (hb : Below W.heap.size W w') (h : Below a.heap.size a W) : Below a.heap.size a w' := h.trans (hb.mono h.size)

/-- Block g holds just these cells, none of them frozen. -/
def Blk (w : World) (g : Nat) (t : TypeId) (cs : Array Value) : Prop := w.heap[g]? = some (.cells cs t (0, 0))
section
variable {w w' : World} {g : Nat} {t : TypeId} {cs : Array Value}
theorem Blk.lt (h : Blk w g t cs) : g < w.heap.size := by
  rcases Nat.lt_or_ge g w.heap.size with h' | h'
  · exact h'
  · unfold Blk at h; rw [Array.getElem?_eq_none h'] at h; cases h
theorem Blk.cell (h : Blk w g t cs) (i : Nat) : w.cell? ⟨g, i, none⟩ = cs[i]? := by unfold Blk at h; simp [World.cell?, h]
theorem Blk.free (h : Blk w g t cs) (i : Nat) : w.frozen? ⟨g, i, none⟩ = false := by unfold Blk at h; simp [World.frozen?, h]
theorem Blk.new (w : World) (t : TypeId) (cs : Array Value) : Blk (w.alloc (.cells cs t)) w.heap.size t cs := by
  unfold Blk; show (w.heap.push _)[w.heap.size]? = _; simp
theorem Blk.newAt (w : World) (t : TypeId) (cs : Array Value) {g : Nat} (h : g = w.heap.size) : Blk (w.alloc (.cells cs t)) g t cs := h ▸ Blk.new w t cs
theorem Blk.new1 (w : World) (o : Obj) (t : TypeId) (cs : Array Value) : Blk ((w.alloc o).alloc (.cells cs t)) (w.heap.size + 1) t cs := by
  have := Blk.new (w.alloc o) t cs
  simpa using this
theorem Blk.alloc (h : Blk w g t cs) (o : Obj) : Blk (w.alloc o) g t cs := (Below.heap_alloc w o g h.lt).trans h
theorem Blk.drewN (h : Blk w g t cs) (n : Nat) : Blk (w.drewN n) g t cs := h
theorem Blk.drew (h : Blk w g t cs) : Blk w.drew g t cs := h
theorem Blk.set (h : Blk w g t cs) (i : Nat) (u : Value) : Blk (w.setCell ⟨g, i, none⟩ u) g t (cs.setIfInBounds i u) := by
  unfold Blk at h ⊢
  simp [World.setCell, Array.getElem?_modify, h]
theorem Blk.far (h : Blk w g t cs) {p : Addr} (hp : g ≠ p.block) (u : Value) : Blk (w.setCell p u) g t cs := (Below.heap_setCell w p u g hp).trans h
theorem Blk.below {B : Nat} (h : Blk w g t cs) (hb : Below B w w') (hg : g < B) : Blk w' g t cs := (hb.block g hg).trans h
theorem Blk.later (h : Blk w g t cs) (hb : Below w.heap.size w w') : Blk w' g t cs := h.below hb h.lt
theorem Blk.grown {row : Option Nat} (h : Blk w g t cs) (hb : w.grownBy w' row) (hg : some g ≠ row) : Blk w' g t cs := (hb.block g h.lt hg).trans h
end

/-- A world that comes later than w: what was there is as it was. -/
structure Later (w : World) where
  at_ : World
  below : Below w.heap.size w at_

instance (w : World) : Inhabited (Later w) := ⟨⟨w, Below.refl _ _⟩⟩

theorem Later.cell {w : World} {b o : Nat} {v : Value} (h : w.cell? ⟨b, o, none⟩ = some v) (s : Later w) : s.at_.cell? ⟨b, o, none⟩ = some v := by
  have hlt := World.block_lt_of_cell? w _ h
  rw [s.below.cell (p := ⟨b, o, none⟩) hlt]; exact h

section
variable {P : Program}

/-- The world under a name of its own, with what is known of it. -/
theorem wp_world {c : Code} {Q : Exit → Act → World → Prop} {a : Act} {w : World} (F : World → Prop) (hF : F w) (h : ∀ W, F W → c.wp P Q a W) : c.wp P Q a w := h w hF

theorem wp_region_later {id : Nat} {Q : Exit → Act → World → Prop} {a : Act} {w : World} {l : List Oper} (hm : P.follows .mixedOrders = true) (hB : Region.lexB .any l.toArray = true)
    (h : wpQuiet P l.toArray (fun w' => ∃ s : Later w, w' = s.at_) (fun a' => ∀ w', (∃ s : Later w, w' = s.at_) → Q .normal a' w') l a) : (Code.region id l.toArray true).wp P Q a w :=
  wp_region_quiet (C := fun w' => ∃ s : Later w, w' = s.at_) hm hB ⟨⟨w.drew, (Below.refl _ _).drew⟩, rfl⟩ (by simpa using h)

theorem later_of {f : FuncId} {args : Array Value} {w : World} {s : Later w} {v : Value}
    (h : Calls P f args s.at_ fun e w' => e = .returned v ∧ Below s.at_.heap.size s.at_ w') : Calls P f args s.at_ fun e w'' => e = .returned v ∧ ∃ s' : Later w, w'' = s'.at_ :=
  h.mono fun _ w' ⟨he, hb⟩ => ⟨he, ⟨w', s.below.trans (hb.mono s.below.size)⟩, rfl⟩

theorem later_same {f : FuncId} {args : Array Value} {w : World} {s : Later w} {v : Value}
    (h : Calls P f args s.at_ fun e w' => e = .returned v ∧ s.at_ = w') : Calls P f args s.at_ fun e w'' => e = .returned v ∧ ∃ s' : Later w, w'' = s'.at_ :=
  h.mono fun _ _ ⟨he, hb⟩ => ⟨he, s, hb.symm⟩
end
end Go.Bs
namespace Go.Bs
open Go.RowKit
set_option linter.unusedVariables false

/-- What cells stand for, looking at blocks of S alone. -/
structure Rp (α : Type) where
  r : (Nat → Prop) → World → List Value → α → Prop
  keep : ∀ {S : Nat → Prop} {w w' : World} {cs : List Value} {x : α}, r S w cs x → (∀ b, S b → w'.heap[b]? = w.heap[b]?) → r S w' cs x
  mono : ∀ {S S' : Nat → Prop} {w : World} {cs : List Value} {x : α}, r S w cs x → (∀ b, S b → S' b) → r S' w cs x

def rInt (k : IntKind) : Rp Int := ⟨fun _ _ cs n => cs = [.int k n] ∧ (Lit.int k n).wf = true, fun h _ => h, fun h _ => h⟩
def rByte : Rp UInt8 := ⟨fun _ _ cs b => cs = [.int .u8 (b.toNat : Int)], fun h _ => h, fun h _ => h⟩
/-- Two things, one behind the other. -/
def rPair {α β : Type} (A : Rp α) (B : Rp β) : Rp (α × β) :=
  ⟨fun S w cs x => ∃ c d, cs = c ++ d ∧ A.r S w c x.1 ∧ B.r S w d x.2,
   fun ⟨c, d, h, h1, h2⟩ hk => ⟨c, d, h, A.keep h1 hk, B.keep h2 hk⟩, fun ⟨c, d, h, h1, h2⟩ hk => ⟨c, d, h, A.mono h1 hk, B.mono h2 hk⟩⟩
/-- By another name. -/
def rBy {α β : Type} (f : α → β) (B : Rp β) : Rp α := ⟨fun S w cs x => B.r S w cs (f x), fun h hk => B.keep h hk, fun h hk => B.mono h hk⟩
/-- A row of things of sz cells each, from a place on. -/
def RRow {α : Type} (sz : Nat) (A : Rp α) (S : Nat → Prop) (w : World) (b off : Nat) (xs : List α) : Prop :=
  S b ∧ ∀ i x, xs[i]? = some x → ∃ cs : List Value, cs.length = sz ∧ (∀ j v, cs[j]? = some v → w.cell? ⟨b, off + i * sz + j, none⟩ = some v) ∧ A.r S w cs x
/-- A slice, nil or not. -/
def rSl {α : Type} (sz : Nat) (A : Rp α) : Rp (List α) :=
  ⟨fun S w cs xs => ∃ a c, cs = [.slice a xs.length c] ∧ xs.length ≤ c ∧ c ≤ maxLen ∧ (xs = [] ∨ ∃ b off, a = some ⟨b, off, none⟩ ∧ RRow sz A S w b off xs),
   fun ⟨a, c, h, h1, h2, h3⟩ hk => ⟨a, c, h, h1, h2, h3.imp id fun ⟨b, off, e, hb, hr⟩ => ⟨b, off, e, hb, fun i x hi =>
     let ⟨cs, hl, hc, hA⟩ := hr i x hi
     ⟨cs, hl, fun j v hj => (World.cell?_of_block (a := ⟨b, off + i * sz + j, none⟩) (hk b hb)).trans (hc j v hj), A.keep hA hk⟩⟩⟩,
   fun ⟨a, c, h, h1, h2, h3⟩ hk => ⟨a, c, h, h1, h2, h3.imp id fun ⟨b, off, e, hb, hr⟩ => ⟨b, off, e, hk b hb, fun i x hi =>
     let ⟨cs, hl, hc, hA⟩ := hr i x hi
     ⟨cs, hl, hc, A.mono hA hk⟩⟩⟩⟩

theorem rSl_mk {α : Type} {sz : Nat} {A : Rp α} {S : Nat → Prop} {w : World} {cs : List Value} {xs : List α} {a : Option Addr} {c : Nat} (h : cs = [.slice a xs.length c]) (h1 : xs.length ≤ c) (h2 : c ≤ maxLen)
    (h3 : xs = [] ∨ ∃ b off, a = some ⟨b, off, none⟩ ∧ RRow sz A S w b off xs) : (rSl sz A).r S w cs xs := ⟨a, c, h, h1, h2, h3⟩
theorem choose_list {α : Type} (n : Nat) (Q : Nat → α → Prop) (h : ∀ i, i < n → ∃ y, Q i y) : ∃ ys : List α, ys.length = n ∧ ∀ i y, ys[i]? = some y → Q i y := by
  induction n with
  | zero => exact ⟨[], rfl, fun i y h => by simp at h⟩
  | succ n ih =>
    obtain ⟨ys, h1, h2⟩ := ih fun i hi => h i (by omega)
    obtain ⟨y, hy⟩ := h n (by omega)
    refine ⟨ys ++ [y], by simp [h1], fun i z hz => ?_⟩
    rcases Nat.lt_or_ge i ys.length with hi | hi
    · rw [List.getElem?_append_left hi] at hz
      exact h2 i z hz
    · rw [List.getElem?_append_right hi] at hz
      have h0 : i - ys.length = 0 := by
        rcases Nat.eq_zero_or_pos (i - ys.length) with h | h
        · exact h
        · rw [List.getElem?_eq_none (by simp; omega)] at hz; cases hz
      rw [h0] at hz
      simp at hz
      subst hz
      have : i = n := by omega
      subst this
      exact hy

/-- Behind 'Below'. -/
theorem Rp.below {α : Type} (A : Rp α) {w w' : World} {B : Nat} {cs : List Value} {x : α} (h : A.r (· < B) w cs x) (hb : Below B w w') : A.r (· < B) w' cs x := A.keep h hb.block

section
variable {P : Program}
/-- What can be read as a thing of type t stands for plain data. -/
def Opens (P : Program) (t : TypeId) {α : Type} (A : Rp α) : Prop :=
  ∀ {H : Type} (enc : TypeId × Value → H) (w : World) (fuel : Nat) (cs : List Value) (x : DataW H × List MemPlace), DataW.trod enc P w 0 (fun _ => true) true fuel t cs = some x → ∃ y, A.r (· < w.heap.size) w cs y

theorem opens_int {t : TypeId} {k : IntKind} (ht : P.underlying t = some (.int k)) : Opens P t (rInt k) := fun enc w fuel cs x h => by
  obtain ⟨n, rfl, _, hw⟩ := DataW.trod_int ht h
  exact ⟨n, rfl, hw⟩
theorem opens_byte {t : TypeId} (ht : P.underlying t = some (.int .u8)) : Opens P t rByte := fun enc w fuel cs x h => by
  obtain ⟨n, rfl, _, hw⟩ := DataW.trod_int ht h
  have := bounds_u8 hw
  refine ⟨UInt8.ofNat n.toNat, ?_⟩
  show _ = _
  have e : ((UInt8.ofNat n.toNat).toNat : Int) = n := by
    simp [UInt8.toNat_ofNat']; omega
  rw [e]

theorem add_none {a : Addr} {b : Nat} {n : Nat} {v : Value} {w : World} (h : w.cell? (a.add n) = some v) : n = 0 → a.spot = none := by
  rintro rfl
  unfold Addr.add at h
  simp only [if_true] at h
  unfold World.cell? at h
  cases hs : a.spot with
  | none => rfl
  | some s =>
    rw [hs] at h
    split at h <;> simp at h

theorem opens_slice {t e : TypeId} {sz : Nat} {α : Type} {A : Rp α} (ht : P.underlying t = some (.slice e)) (hs : P.cellsOf e = sz) (hsz : 0 < sz) (hA : Opens P e A) : Opens P t (rSl sz A) := fun enc w fuel cs x h => by
  rcases Deep.open_slice ht h with ⟨rfl, rfl⟩ | ⟨a, len, cap, m, n, D, Pl, rfl, hb, hl, hm, hmm, _, hel⟩
  · exact ⟨[], rSl_mk rfl (Nat.le_refl _) (Nat.zero_le _) (.inl rfl)⟩
  · have hlm : len ≤ m := by simp at hmm; omega
    rw [hs] at hel
    have hy : ∀ i, i < len → ∃ y, ∃ cs' : List Value, cs'.length = sz ∧ (∀ j v, cs'[j]? = some v → w.cell? ((a.add (i * sz)).add j) = some v) ∧ A.r (· < w.heap.size) w cs' y := by
      intro i hi
      obtain ⟨cs', hc, ht'⟩ := hel i (by omega)
      obtain ⟨y, hy⟩ := hA enc w n cs' _ ht'
      obtain ⟨_, h1, h2⟩ := World.cells?_some hc
      exact ⟨y, cs', h1, fun j v hj => by
        have hj' : j < sz := by rw [← h1]; exact (List.getElem?_eq_some_iff.1 hj).1
        rw [h2 j hj']; exact hj, hy⟩
    by_cases h0 : len = 0
    · subst h0
      exact ⟨[], rSl_mk rfl (Nat.zero_le _) hm (.inl rfl)⟩
    have hspot : a.spot = none := by
      obtain ⟨y, cs', h1, h2, _⟩ := hy 0 (by omega)
      obtain ⟨v, hv⟩ : ∃ v, cs'[0]? = some v := ⟨cs'[0], List.getElem?_eq_getElem (by omega)⟩
      have := h2 0 v hv
      have e1 : (a.add (0 * sz)).add 0 = a.add 0 := by simp [Addr.add]
      rw [e1] at this
      exact add_none (b := 0) this rfl
    obtain ⟨ys, hys⟩ : ∃ ys : List α, ys.length = len ∧ ∀ i y, ys[i]? = some y → ∃ cs' : List Value, cs'.length = sz ∧ (∀ j v, cs'[j]? = some v → w.cell? ((a.add (i * sz)).add j) = some v) ∧ A.r (· < w.heap.size) w cs' y := by
      exact choose_list len _ hy
    obtain ⟨hlen, hys⟩ := hys
    refine ⟨ys, rSl_mk (a := some a) (c := cap) (by rw [hlen]) (by omega) hm (.inr ⟨a.block, a.off, by cases a; simp at hspot; rw [hspot], ?_, ?_⟩)⟩
    · obtain ⟨y, cs', h1, h2, _⟩ := hy 0 (by omega)
      obtain ⟨v, hv⟩ : ∃ v, cs'[0]? = some v := ⟨cs'[0], List.getElem?_eq_getElem (by omega)⟩
      have := World.block_lt_of_cell? w _ (h2 0 v hv)
      simpa [Addr.add] using this
    · intro i y hiy
      obtain ⟨cs', h1, h2, h3⟩ := hys i y hiy
      refine ⟨cs', h1, fun j v hj => ?_, h3⟩
      rw [← h2 j v hj]
      congr 1
      cases a with
      | mk ab ao asp =>
        simp at hspot
        subst hspot
        unfold Addr.add
        split <;> split <;> simp_all

/-- A struct's fields, each read. -/
theorem trod_fields {H : Type} {enc : TypeId × Value → H} {w : World} {fuel : Nat} {t : TypeId} {cs : List Value} {x : DataW H × List MemPlace} {fs : Array Field} (ht : P.underlying t = some (.struct fs)) (h : DataW.trod enc P w 0 (fun _ => true) true fuel t cs = some x) :
    cs.length = P.cellsOf t ∧ ∃ n, ∀ (i : Nat) (f : Field), fs[i]? = some f → ∃ y, DataW.trod enc P w 0 (fun _ => true) true n f.type ((cs.drop f.offset).take (P.cellsOf f.type)) = some y := by
  obtain ⟨xs, n, _, _, h1, h2, h3⟩ := DataW.trod_struct ht h
  refine ⟨h1, n, fun i f hf => ?_⟩
  have hi : i < fs.size := (Array.getElem?_eq_some_iff.1 hf).1
  rw [h3 i f hf, List.getElem?_eq_getElem (by omega)]
  exact ⟨_, rfl⟩
theorem pair_step {α β : Type} {A : Rp α} {B : Rp β} {S : Nat → Prop} {w : World} {cs : List Value} {o s o' : Nat} {x : α} {y : β} (ho : o + s = o') (h1 : A.r S w ((cs.drop o).take s) x) (h2 : B.r S w (cs.drop o') y) : (rPair A B).r S w (cs.drop o) (x, y) :=
  ⟨_, _, by subst ho; rw [← List.drop_drop, List.take_append_drop], h1, h2⟩
theorem last_step {β : Type} {B : Rp β} {S : Nat → Prop} {w : World} {cs : List Value} {o s : Nat} {y : β} (hl : cs.length = o + s) (h2 : B.r S w ((cs.drop o).take s) y) : B.r S w (cs.drop o) y := by
  rwa [List.take_of_length_le (by simp; omega)] at h2

end
end Go.Bs
namespace Go.Bs
open Go.RowKit
set_option linter.unusedVariables false

structure Link where
  stream : Int
  backs : List Int
structure Entry where
  links : List Link
  data : List UInt8
structure Batch where
  epoch : Int
  base : Int
  entries : List Entry
structure Seg where
  epoch : Int
  batches : List Batch

def rU64s : Rp (List Int) := rSl 1 (rInt .u64)
def rBytes : Rp (List UInt8) := rSl 1 rByte
def rLink : Rp Link := rBy (fun l => (l.stream, l.backs)) (rPair (rInt .u64) rU64s)
def rLinks : Rp (List Link) := rSl 2 rLink
def rEntry : Rp Entry := rBy (fun e => (e.links, e.data)) (rPair rLinks rBytes)
def rEntries : Rp (List Entry) := rSl 2 rEntry
def rBatch : Rp Batch := rBy (fun b => (b.epoch, b.base, b.entries)) (rPair (rInt .u64) (rPair (rInt .u64) rEntries))
section
variable {S : Nat → Prop} {w : World} {cs : List Value}

/-- A value that stands for a list: its form, its length. -/
theorem sl_form {α : Type} {sz : Nat} {A : Rp α} {xs : List α} (h : (rSl sz A).r S w cs xs) : ∃ a c, cs = [.slice a xs.length c] ∧ (rSl sz A).r S w [.slice a xs.length c] xs ∧ xs.length ≤ 9223372036854775807 := by
  obtain ⟨a, c, rfl, h1, h2, h3⟩ := h
  exact ⟨a, c, rfl, ⟨a, c, rfl, h1, h2, h3⟩, by unfold maxLen at h2; omega⟩
theorem sl_len {α : Type} {sz : Nat} {A : Rp α} {xs : List α} {a : Option Addr} {n c : Nat} (h : (rSl sz A).r S w [.slice a n c] xs) : n = xs.length ∧ xs.length ≤ 9223372036854775807 ∧ n ≤ c ∧ c ≤ 9223372036854775807 := by
  obtain ⟨a', c', e, h1, h2, h3⟩ := h
  simp at e
  obtain ⟨_, rfl, rfl⟩ := e
  exact ⟨rfl, by unfold maxLen at h2; omega, h1, h2⟩
/-- One of its elements. -/
theorem sl_at {α : Type} {sz : Nat} {A : Rp α} {xs : List α} {a : Option Addr} {n c : Nat} (h : (rSl sz A).r S w [.slice a n c] xs) {i : Nat} (hi : i < xs.length) :
    ∃ b off, a = some ⟨b, off, none⟩ ∧ S b ∧ ∃ cs : List Value, cs.length = sz ∧ (∀ j v, cs[j]? = some v → w.cell? ⟨b, off + i * sz + j, none⟩ = some v) ∧ A.r S w cs xs[i] := by
  obtain ⟨a', c', e, h1, h2, h3⟩ := h
  simp at e
  obtain ⟨rfl, rfl, rfl⟩ := e
  rcases h3 with rfl | ⟨b, off, rfl, hS, hr⟩
  · simp at hi
  · obtain ⟨cs, hl, hc, hA⟩ := hr i xs[i] (List.getElem?_eq_getElem hi)
    exact ⟨b, off, rfl, hS, cs, hl, hc, hA⟩

theorem link_cells {x : Link} (h : rLink.r S w cs x) : ∃ a c, cs = [.int .u64 x.stream, .slice a x.backs.length c] ∧ (0 ≤ x.stream ∧ x.stream ≤ 18446744073709551615) ∧ rU64s.r S w [.slice a x.backs.length c] x.backs := by
  obtain ⟨c1, c2, rfl, ⟨rfl, hw⟩, h2⟩ := h
  obtain ⟨a, c, rfl, h3, _⟩ := sl_form h2
  exact ⟨a, c, rfl, bounds_u64 hw, h3⟩
theorem u64_wf {n : Int} (h : 0 ≤ n ∧ n ≤ 18446744073709551615) : (Lit.int .u64 n).wf = true := by
  simp [Lit.wf, IntKind.min, IntKind.max, IntKind.signed, IntKind.bits]; omega
theorem link_mk {x : Link} {a : Option Addr} {n c : Nat} (h0 : 0 ≤ x.stream ∧ x.stream ≤ 18446744073709551615) (h : rU64s.r S w [.slice a n c] x.backs) : rLink.r S w [.int .u64 x.stream, .slice a n c] x := ⟨[_], [_], rfl, ⟨rfl, u64_wf h0⟩, h⟩
theorem batch_mk {x : Batch} {v : Value} (h0 : 0 ≤ x.epoch ∧ x.epoch ≤ 18446744073709551615) (h1 : 0 ≤ x.base ∧ x.base ≤ 18446744073709551615) (h : rEntries.r S w [v] x.entries) : rBatch.r S w [.int .u64 x.epoch, .int .u64 x.base, v] x :=
  ⟨[_], [_, _], rfl, ⟨rfl, u64_wf h0⟩, [_], [_], rfl, ⟨rfl, u64_wf h1⟩, h⟩
/-- Elements by their cells. -/
theorem u64_at {xs : List Int} {a : Option Addr} {n c : Nat} (h : rU64s.r S w [.slice a n c] xs) {i : Nat} (hi : i < xs.length) : ∃ b off, a = some ⟨b, off, none⟩ ∧ S b ∧ w.cell? ⟨b, off + i, none⟩ = some (.int .u64 xs[i]) ∧ 0 ≤ xs[i] ∧ xs[i] ≤ 18446744073709551615 := by
  obtain ⟨b, off, e, hS, cs, _, hc, rfl, hw⟩ := sl_at h hi
  have := hc 0 _ rfl
  rw [Nat.mul_one, Nat.add_zero] at this
  exact ⟨b, off, e, hS, this, bounds_u64 hw⟩
theorem byte_at {xs : List UInt8} {a : Option Addr} {n c : Nat} (h : rBytes.r S w [.slice a n c] xs) {i : Nat} (hi : i < xs.length) : ∃ b off, a = some ⟨b, off, none⟩ ∧ S b ∧ w.cell? ⟨b, off + i, none⟩ = some (.int .u8 (xs[i].toNat : Int)) := by
  obtain ⟨b, off, e, hS, cs, _, hc, rfl⟩ := sl_at h hi
  have := hc 0 _ rfl
  rw [Nat.mul_one, Nat.add_zero] at this
  exact ⟨b, off, e, hS, this⟩
theorem link_at {xs : List Link} {a : Option Addr} {n c : Nat} (h : rLinks.r S w [.slice a n c] xs) {i : Nat} (hi : i < xs.length) : ∃ b off, a = some ⟨b, off, none⟩ ∧ S b ∧ ∃ a' c', w.cell? ⟨b, off + i * 2, none⟩ = some (.int .u64 xs[i].stream) ∧ w.cell? ⟨b, off + i * 2 + 1, none⟩ = some (.slice a' xs[i].backs.length c') ∧
    (0 ≤ xs[i].stream ∧ xs[i].stream ≤ 18446744073709551615) ∧ rU64s.r S w [.slice a' xs[i].backs.length c'] xs[i].backs := by
  obtain ⟨b, off, e, hS, cs, _, hc, hA⟩ := sl_at h hi
  obtain ⟨a', c', rfl, h1, h2⟩ := link_cells hA
  exact ⟨b, off, e, hS, a', c', hc 0 _ rfl, hc 1 _ rfl, h1, h2⟩
end

/-- What keeps a reading: nothing below has turned. -/
theorem lift {α : Type} {A : Rp α} {w w' : World} {cs : List Value} {x : α} (h : A.r (· < w.heap.size) w cs x) (hb : Below w.heap.size w w') : A.r (· < w'.heap.size) w' cs x :=
  A.mono (A.below h hb) fun b hlt => Nat.lt_of_lt_of_le hlt hb.size

/-! What is well-formed. -/
def epR (e : Int) : Bool := decide (1 ≤ e ∧ e < 4611686018427387904)
def poR (e : Int) : Bool := decide (e < 4611686018427387904)
def fallsB : Int → List Int → Bool
  | _, [] => true
  | b, x :: l => decide (x < b) && fallsB x l
def risesB : List Int → Bool
  | [] => true
  | [_] => true
  | x :: y :: l => decide (x < y) && risesB (y :: l)
def linkR (pos : Int) (x : Link) : Bool := decide (x.backs.length ≤ 4) && fallsB pos x.backs
def linksR (pos : Int) (l : List Link) : Bool := decide (l.length ≤ 16) && (risesB (l.map Link.stream) && l.all (linkR pos))
end Go.Bs
namespace Go.Proofs.YtlbffbkbkajciaaGreat
open Go.RowKit Go.Bs
set_option linter.unusedVariables false
set_option linter.unusedSimpArgs false

set_option maxHeartbeats 400000 in
theorem epoch_right (e : Int) (w : World) : Calls Tryz.prog 113 #[.int .u64 e] w fun r w' => r = .returned (.bool (epR e)) ∧ w = w' := by
  by_cases h1 : 1 ≤ e
  · by_cases h2 : e < 4611686018427387904
    · have : epR e = true := by simp [epR, h1, h2]
      rw [this]
      have d1 : decide (1 ≤ e) = true := by simpa using h1
      have d2 : decide (e < 4611686018427387904) = true := by simpa using h2
      clear this h1 h2
      go_enter Tryz.func113, Tryz.ntmps113
      go_wp2
      go_ret
      exact ⟨rfl, rfl⟩
    · have : epR e = false := by simp [epR, h2]
      rw [this]
      have d1 : decide (1 ≤ e) = true := by simpa using h1
      have d2 : decide (e < 4611686018427387904) = false := by simpa using h2
      clear this h1 h2
      go_enter Tryz.func113, Tryz.ntmps113
      go_wp2
      go_ret
      exact ⟨rfl, rfl⟩
  · have : epR e = false := by simp [epR, h1]
    rw [this]
    have d1 : decide (1 ≤ e) = false := by simpa using h1
    clear this h1
    go_enter Tryz.func113, Tryz.ntmps113
    go_wp2
    go_ret
    exact ⟨rfl, rfl⟩

set_option maxHeartbeats 400000 in
theorem epoch_pos (e : Int) (w : World) : Calls Tryz.prog 82 #[.int .u64 e] w fun r w' => r = .returned (.bool (poR e)) ∧ w = w' := by
  go_enter Tryz.func82, Tryz.ntmps82
  go_wp2
  go_ret
  exact ⟨rfl, rfl⟩

set_option maxHeartbeats 400000 in
theorem ref17_right (e : Int) (h0 : 0 ≤ e) (w : World) : Calls Tryz.prog 114 #[.int .u64 e] w fun r w' => r = .returned (.bool (epR e)) ∧ w = w' := by
  by_cases h1 : 0 < e
  · by_cases h2 : e ≤ 4611686018427387903
    · have : epR e = true := by simp [epR]; omega
      rw [this]
      have d1 : decide (0 < e) = true := by simpa using h1
      have d2 : decide (e ≤ 4611686018427387903) = true := by simpa using h2
      clear this h1 h2
      go_enter Tryz.func114, Tryz.ntmps114
      go_wp2
      go_ret
      exact ⟨rfl, rfl⟩
    · have : epR e = false := by simp [epR]; omega
      rw [this]
      have d1 : decide (0 < e) = true := by simpa using h1
      have d2 : decide (e ≤ 4611686018427387903) = false := by simpa using h2
      clear this h1 h2
      go_enter Tryz.func114, Tryz.ntmps114
      go_wp2
      go_ret
      exact ⟨rfl, rfl⟩
  · have : epR e = false := by simp [epR]; omega
    rw [this]
    have d1 : decide (0 < e) = false := by simpa using h1
    clear this h1
    go_enter Tryz.func114, Tryz.ntmps114
    go_wp2
    go_ret
    exact ⟨rfl, rfl⟩

set_option maxHeartbeats 400000 in
theorem ref17_pos (e : Int) (w : World) : Calls Tryz.prog 89 #[.int .u64 e] w fun r w' => r = .returned (.bool (poR e)) ∧ w = w' := by
  have : poR e = decide (e ≤ 4611686018427387903) := by simp only [poR, decide_eq_decide]; omega
  rw [this]
  clear this
  go_enter Tryz.func89, Tryz.ntmps89
  go_wp2
  go_ret
  exact ⟨rfl, rfl⟩

theorem infoU : (Tryz.prog.info? 22).map (fun i => (i.zero, i.size, i.bytes)) = some (some (.int .u64 0), 1, 8) := by kernel_rfl

def stepsL : Int → List Int → List Int
  | _, [] => []
  | b, x :: l => (b - x - 1) :: stepsL x l
/-- The number ahead of place k. -/
def ahead (b : Int) (l : List Int) (k : Nat) : Int := if k = 0 then b else l.getD (k - 1) 0
theorem ahead_zero (b : Int) (l : List Int) : ahead b l 0 = b := rfl
theorem ahead_succ (b : Int) (l : List Int) (k : Nat) (h : k < l.length) : ahead b l (k + 1) = l[k] := by
  unfold ahead; rw [if_neg (by omega)]; simp [h]

/-- What delta.Steps hands back. -/
def StepsRet (below : Int) (l : List Int) (w : World) (e : Ending) (w' : World) : Prop :=
  ∃ v, e = .returned (.tuple #[v, .bool (fallsB below l)]) ∧ rU64s.r (· < w'.heap.size) w' [v] (if fallsB below l then stepsL below l else []) ∧ Below w.heap.size w w'

/-- An owned row of numbers reads as a list. -/
theorem own_u64s {w : World} {base : Nat} {e : TypeId} {v : Value} {xs : List Int} (h : w.ownsRow base e 1 v xs.length (xs.map (Value.int .u64))) (hb : ∀ x ∈ xs, 0 ≤ x ∧ x ≤ 18446744073709551615) (hm : xs.length ≤ maxLen) : rU64s.r (· < w.heap.size) w [v] xs := by
  rcases h.2 with ⟨rfl, h0⟩ | ⟨g, cap, cur, rfl, hbg, hg, hn, hc, hcur, hx⟩
  · have : xs = [] := List.eq_nil_of_length_eq_zero h0
    subst this
    exact rSl_mk rfl (Nat.le_refl _) (Nat.zero_le _) (.inl rfl)
  · refine rSl_mk rfl hn hc (.inr ⟨g, 0, rfl, Blk.lt hg, fun i x hi => ⟨[.int .u64 x], rfl, fun j v hj => ?_, rfl, u64_wf (hb x (List.mem_of_getElem? hi))⟩⟩)
    have hj0 : j = 0 := by
      rcases j with _ | j
      · rfl
      · simp at hj
    subst hj0
    simp at hj
    subst hj
    have hi' : i < xs.length := (List.getElem?_eq_some_iff.1 hi).1
    rw [Nat.zero_add, Nat.mul_one, Nat.add_zero, Blk.cell hg i]
    have e1 : cur[i]? = (cur.toList.take (xs.length * 1))[i]? := by
      rw [List.getElem?_take, if_pos (by omega)]; simp
    rw [e1, hx, List.getElem?_map, hi]; rfl

set_option maxHeartbeats 1600000 in
theorem steps_any (below : Int) (l : List Int) (a : Option Addr) (n c : Nat) (w : World) (hb0 : 0 ≤ below ∧ below ≤ 18446744073709551615) (hl : rU64s.r (· < w.heap.size) w [.slice a n c] l) (hlen : l.length ≤ 1000000000000) :
    Calls Tryz.prog 215 #[.int .u64 below, .slice a n c] w (StepsRet below l w) := by
  obtain ⟨rfl, hm, _, _⟩ := sl_len hl
  obtain ⟨i0, hi, hz0, hz1, hz2⟩ := info_parts infoU
  have HL := hid hl; clear hl
  go_enter Tryz.func215, Tryz.ntmps215
  go_wp2
  go_loopw [0, 6, 11] (fun b v i wr => ∃ k : Nat, k ≤ l.length ∧ i = .int .i64 k ∧ b = .int .u64 (ahead below l k) ∧ 0 ≤ ahead below l k ∧ ahead below l k ≤ 18446744073709551615 ∧ Hid (fallsB below l = fallsB (ahead below l k) (l.drop k)) ∧
      (∃ xs : List Int, Hid (xs.length = k ∧ (∀ x ∈ xs, 0 ≤ x ∧ x ≤ 18446744073709551615) ∧ stepsL below l = xs ++ stepsL (ahead below l k) (l.drop k)) ∧ wr.ownsRow w.heap.size 22 1 v k (xs.map (Value.int .u64))) ∧ Below w.heap.size w wr) (fun _ _ i _ => l.length - (intOf i).toNat)
  case atStart => exact ⟨0, Nat.zero_le _, rfl, rfl, hb0.1, hb0.2, hid rfl, ⟨[], hid ⟨rfl, by simp, rfl⟩, ⟨rfl, .inl ⟨rfl, rfl⟩⟩⟩, Below.refl _ _⟩
  case round =>
    obtain ⟨k, hk, rfl, rfl, ha0, ha1, hf, ⟨xs, hxs, hown⟩, hb⟩ := hrel
    by_cases hlt : k < l.length
    · obtain ⟨b, o, hA, hbb, hc, hx0, hx1⟩ := u64_at HL.out hlt
      subst hA
      have q := (hb.cell (p := ⟨b, o + k, none⟩) hbb).trans hc
      clear hc
      have hd := hid (List.drop_eq_getElem_cons hlt)
      have hsu := hid (ahead_succ below l k hlt)
      generalize hlk : l[k] = x at *
      clear hlk
      generalize ahead below l k = p at *
      by_cases hge : p ≤ x
      · have hff : Hid (fallsB below l = false) := by
          rw [hf.out, hd.out]; exact hid (by simp [fallsB]; omega)
        go_wp2
        go_ret2
        exact ⟨.slice none 0 0, by rw [hff.out]; rfl, by rw [hff.out]; exact rSl_mk rfl (Nat.le_refl _) (Nat.zero_le _) (.inl rfl), hb⟩
      · have hbs := hb.size
        have w1 : 0 ≤ p - x := by omega
        have w2 : 0 ≤ p - x - 1 := by omega
        go_wp2_with (at_builtin; refine wpList_append_lies _ rfl _ _ _ rfl w.heap.size 22 i0 (.int .u64 0) 1 8 Tryz.underlying23 hi hz0 hz1 hz2 rfl (by decide) _ k _ rfl (hown.alloc _) ⟨wr.heap.size, 0, none⟩ 1 1 [.int .u64 (p - x - 1)] rfl rfl (World.news_of_block (Blk.new _ _ _)) (by simp [Value.oneCell']) (by decide) (by simp only [maxLen]; omega) (by omega) (by simp; omega) _ rfl ?_; intro g1 cap1 w1' hown1 hgrow1 hat1 hlt1)
        go_roundw
        case rel =>
          refine ⟨k + 1, by omega, by go_num, by rw [hsu.out], by rw [hsu.out]; exact hx0, by rw [hsu.out]; exact hx1, ?_, ⟨xs ++ [p - x - 1], ?_, ?_⟩, ?_⟩
          · rw [hf.out, hd.out, hsu.out]
            exact hid (by simp only [fallsB]; rw [decide_eq_true (by omega)]; rfl)
          · refine hid ⟨by simp [hxs.out.1], ?_, ?_⟩
            · intro y hy
              rw [List.mem_append, List.mem_singleton] at hy
              rcases hy with hy | rfl
              · exact hxs.out.2.1 y hy
              · omega
            · rw [hsu.out, hxs.out.2.2, hd.out]
              simp [stepsL]
          · rw [List.map_append]; exact hown1
          · refine Below.grown ?_ hgrow1 (by simp; omega) (fun g e => (hown.lt g e).1)
            exact hb.alloc hbs _
        case measure => simp [intOf]; omega
    · obtain rfl : k = l.length := by omega
      have hff : Hid (fallsB below l = true) := by
        rw [hf.out, List.drop_length]; exact hid rfl
      have hxl := hxs.out.1
      have hst : Hid (stepsL below l = xs) := hid (by rw [hxs.out.2.2, List.drop_length]; simp [stepsL])
      have hv : rU64s.r (· < wr.heap.size) wr [u6] xs := own_u64s (by rw [hxl]; exact hown) hxs.out.2.1 (by unfold maxLen; omega)
      have HV := hid hv; clear hv hxl
      go_wp2
      go_ret2
      exact ⟨u6, by rw [hff.out]; rfl, by rw [hff.out, if_pos rfl, hst.out]; exact HV.out, hb⟩

set_option maxHeartbeats 400000 in
theorem delta_falls (below : Int) (l : List Int) (a : Option Addr) (n c : Nat) (w : World) (hb0 : 0 ≤ below ∧ below ≤ 18446744073709551615) (hl : rU64s.r (· < w.heap.size) w [.slice a n c] l) (hlen : l.length ≤ 1000000000000) :
    Calls Tryz.prog 159 #[.int .u64 below, .slice a n c] w fun r w' => r = .returned (.bool (fallsB below l)) ∧ Below w.heap.size w w' := by
  have HL := hid hl; clear hl
  go_enter Tryz.func159, Tryz.ntmps159
  go_wp2_with fail
  refine (steps_any below l a n c _ hb0 HL.out hlen).mono ?_
  rintro e w1 ⟨v, rfl, _, hb1⟩
  go_wp2
  go_ret
  exact ⟨rfl, hb1⟩

set_option maxHeartbeats 1600000 in
theorem ref22_falls (below : Int) (l : List Int) (a : Option Addr) (n c : Nat) (w : World) (hl : rU64s.r (· < w.heap.size) w [.slice a n c] l) :
    Calls Tryz.prog 163 #[.int .u64 below, .slice a n c] w fun r w' => r = .returned (.bool (fallsB below l)) ∧ Below w.heap.size w w' := by
  obtain ⟨rfl, hm, _, _⟩ := sl_len hl
  have HL := hid hl; clear hl
  go_enter Tryz.func163, Tryz.ntmps163
  go_wp2
  go_loopw [5] (fun i wr => ∃ k : Nat, k ≤ l.length ∧ i = .int .i64 k ∧ Hid (fallsB below l = fallsB (ahead below l k) (l.drop k)) ∧ Below w.heap.size w wr) (fun i _ => l.length - (intOf i).toNat)
  case atStart => exact ⟨0, Nat.zero_le _, rfl, hid rfl, Below.refl _ _⟩
  case round =>
    obtain ⟨k, hk, rfl, hf, hb⟩ := hrel
    by_cases hlt : k < l.length
    · obtain ⟨b, o, hA, hbb, hc, hx0, hx1⟩ := u64_at HL.out hlt
      have hd := hid (List.drop_eq_getElem_cons hlt)
      have hsu := hid (ahead_succ below l k hlt)
      have hlt' : (k : Int) < (l.length : Int) := by omega
      rcases k with _ | m
      · subst hA
        have X0 := fun s : Later wr => s.cell ((hb.cell (p := ⟨b, o + 0, none⟩) hbb).trans hc)
        simp only [Nat.add_zero] at X0
        clear hc
        generalize hlk : l[0] = x at *
        clear hlk
        rw [ahead_zero] at hf
        by_cases hge : below ≤ x
        · have d1 : decide (below ≤ x) = true := by simpa using hge
          have hff : Hid (fallsB below l = false) := by
            rw [hf.out, hd.out]; exact hid (by simp [fallsB]; omega)
          clear hge
          go_wp2_with fail
          refine wp_region_later (by kernel_rfl) (by kernel_rfl) ?_
          repeat (go_big_quiet_step (fail))
          refine wpQuiet_nil ?_
          rintro W5 ⟨⟨W5', hb5⟩, rfl⟩
          go_wp2
          go_ret
          exact ⟨by rw [hff.out]; rfl, below_then hb5 hb⟩
        · have d1 : decide (below ≤ x) = false := by simpa using hge
          clear hge
          have hlt2 : x < below := by simpa using d1
          go_wp2_with fail
          refine wp_region_later (by kernel_rfl) (by kernel_rfl) ?_
          repeat (go_big_quiet_step (fail))
          refine wpQuiet_nil ?_
          rintro W5 ⟨⟨W5', hb5⟩, rfl⟩
          go_wp2
          go_roundw
          case rel =>
            refine ⟨1, by omega, rfl, ?_, below_then hb5 hb⟩
            rw [hsu.out, hf.out, hd.out]
            exact hid (by simp only [fallsB]; rw [decide_eq_true hlt2]; rfl)
          case measure => simp [intOf]; omega
      · obtain ⟨b', o', hA', hbb', hc', _, _⟩ := u64_at HL.out (show m < l.length by omega)
        have hp := hid (ahead_succ below l m (by omega))
        subst hA
        obtain ⟨rfl, rfl⟩ : b' = b ∧ o' = o := by simp at hA'; exact ⟨hA'.1.symm, hA'.2.symm⟩
        clear hA'
        have X0 := fun s : Later wr => s.cell ((hb.cell (p := ⟨b', o' + (m + 1), none⟩) hbb).trans hc)
        have X1 := fun s : Later wr => s.cell ((hb.cell (p := ⟨b', o' + m, none⟩) hbb).trans hc')
        clear hc hc'
        generalize hlk : l[m + 1] = x at *
        generalize hlm : l[m] = y at *
        clear hlk hlm
        rw [hp.out] at hf
        rw [show ((m + 1 : Nat) : Int) = (m : Int) + 1 from by omega]
        have k0 : ((m : Int) + 1 == 0) = false := by simp; omega
        have k1 : (0 : Int) < (m : Int) + 1 := by omega
        have k2 : (0 : Int) ≤ (m : Int) + 1 - 1 := by omega
        have k3 : (m : Int) + 1 < (l.length : Int) := by omega
        by_cases hge : y ≤ x
        · have d1 : decide (y ≤ x) = true := by simpa using hge
          have hff : Hid (fallsB below l = false) := by
            rw [hf.out, hd.out]; exact hid (by simp [fallsB]; omega)
          clear hge
          go_wp2_with fail
          refine wp_region_later (by kernel_rfl) (by kernel_rfl) ?_
          repeat (go_big_quiet_step (fail))
          refine wpQuiet_nil ?_
          rintro W5 ⟨⟨W5', hb5⟩, rfl⟩
          go_wp2
          go_ret
          exact ⟨by rw [hff.out]; rfl, below_then hb5 hb⟩
        · have d1 : decide (y ≤ x) = false := by simpa using hge
          clear hge
          have hlt2 : x < y := by simpa using d1
          go_wp2_with fail
          refine wp_region_later (by kernel_rfl) (by kernel_rfl) ?_
          repeat (go_big_quiet_step (fail))
          refine wpQuiet_nil ?_
          rintro W5 ⟨⟨W5', hb5⟩, rfl⟩
          go_wp2
          go_roundw
          case rel =>
            refine ⟨m + 1 + 1, by omega, by go_num, ?_, below_then hb5 hb⟩
            rw [hsu.out, hf.out, hd.out]
            exact hid (by simp only [fallsB]; rw [decide_eq_true hlt2]; rfl)
          case measure => simp [intOf]; omega
    · obtain rfl : k = l.length := by omega
      have hff : Hid (fallsB below l = true) := by
        rw [hf.out, List.drop_length]; exact hid rfl
      go_wp2
      go_ret
      exact ⟨by rw [hff.out]; rfl, hb⟩
end Go.Proofs.YtlbffbkbkajciaaGreat
namespace Go.Bs
open Go.RowKit
deriving instance DecidableEq for Link, Entry, Batch, Seg

theorem bytes_str {P : Program} {S : Nat → Prop} {w : World} {a : Option Addr} {n c : Nat} {l : List UInt8} (src dst e : TypeId) (hs : P.underlying src = some (.slice e)) (he : P.underlying e = some (.int .u8)) (hd : P.underlying dst = some .string)
    (h : rBytes.r S w [.slice a n c] l) : (convert src dst (.slice a l.length c)).run P w = .ok (.string ⟨l.toArray⟩) w := by
  obtain ⟨rfl, _, _, _⟩ := sl_len h
  rcases a with _ | ad
  · have h0 : l = [] := by
      rcases l with _ | ⟨x, l⟩
      · rfl
      · obtain ⟨b, off, e, _⟩ := byte_at h (i := 0) (by simp)
        cases e
    subst h0
    exact run_convert_bytes_nil w src e hs he _ _ dst hd
  · refine run_convert_bytes_back w src dst e ad c l hs he hd fun j hj => ?_
    obtain ⟨b, off, e, _, hc⟩ := byte_at h hj
    simp at e
    subst e
    rw [← hc]
    congr 1
    unfold Addr.add
    split
    · rename_i h0; subst h0; rfl
    · rfl
end Go.Bs
namespace Go.Proofs.YtlbffbkbkajciaaGreat
open Go.RowKit Go.Bs
set_option linter.unusedVariables false
set_option linter.unusedSimpArgs false

set_option maxHeartbeats 400000 in
theorem same_bytes (x y : List UInt8) (a a' : Option Addr) (n c n' c' : Nat) (w : World) (hx : rBytes.r (· < w.heap.size) w [.slice a n c] x) (hy : rBytes.r (· < w.heap.size) w [.slice a' n' c'] y) :
    Calls Tryz.prog 18 #[.slice a n c, .slice a' n' c'] w fun r w' => r = .returned (.bool (decide (x = y))) ∧ w = w' := by
  obtain ⟨rfl, _, _, _⟩ := sl_len hx
  obtain ⟨rfl, _, _, _⟩ := sl_len hy
  have h1 := bytes_str (P := Tryz.prog) 25 9 5 Tryz.underlying25 Tryz.underlying5 Tryz.underlying9 hx
  have h2 := bytes_str (P := Tryz.prog) 25 9 5 Tryz.underlying25 Tryz.underlying5 Tryz.underlying9 hy
  have he : (x == y) = decide (x = y) := by
    by_cases h : x = y
    · simp [h]
    · simp [h]
  have HE := hid he; clear he hx hy
  go_enter Tryz.func18, Tryz.ntmps18
  go_wp2
  go_ret
  refine ⟨?_, rfl⟩
  rw [← HE.out]
  simp [go_sem]

theorem drop_eq_step {α : Type} [DecidableEq α] (x y : List α) (k : Nat) (hx : k < x.length) (hy : k < y.length) : decide (x.drop k = y.drop k) = (decide (x[k] = y[k]) && decide (x.drop (k + 1) = y.drop (k + 1))) := by
  rw [List.drop_eq_getElem_cons hx, List.drop_eq_getElem_cons hy, Bool.eq_iff_iff, decide_eq_true_iff, Bool.and_eq_true, decide_eq_true_iff, decide_eq_true_iff, List.cons.injEq]

set_option maxHeartbeats 1600000 in
theorem same_u64s (x y : List Int) (a a' : Option Addr) (n c n' c' : Nat) (w : World) (hx : rU64s.r (· < w.heap.size) w [.slice a n c] x) (hy : rU64s.r (· < w.heap.size) w [.slice a' n' c'] y) :
    Calls Tryz.prog 99 #[.slice a n c, .slice a' n' c'] w fun r w' => r = .returned (.bool (decide (x = y))) ∧ Below w.heap.size w w' := by
  obtain ⟨rfl, hm, _, _⟩ := sl_len hx
  obtain ⟨rfl, hm', _, _⟩ := sl_len hy
  by_cases hl : x.length = y.length
  · have HX := hid hx; clear hx
    have HY := hid hy; clear hy
    have HL := hid hl
    have e1 : ((x.length : Int) != (y.length : Int)) = false := by simp [hl]
    clear hl
    go_enter Tryz.func99, Tryz.ntmps99
    go_wp2
    go_loopw [5] (fun i wr => ∃ k : Nat, k ≤ x.length ∧ i = .int .i64 k ∧ Hid (decide (x = y) = decide (x.drop k = y.drop k)) ∧ Below w.heap.size w wr) (fun i _ => x.length - (intOf i).toNat)
    case atStart => exact ⟨0, Nat.zero_le _, rfl, hid rfl, Below.refl _ _⟩
    case round =>
      obtain ⟨k, hk, rfl, hf, hb⟩ := hrel
      by_cases hlt : k < x.length
      · have hlt' : k < y.length := by rw [← HL.out]; exact hlt
        obtain ⟨b, o, hA, hbb, hc, _, _⟩ := u64_at HX.out hlt
        obtain ⟨b', o', hA', hbb', hc', _, _⟩ := u64_at HY.out hlt'
        have hst := hid (drop_eq_step x y k hlt hlt')
        subst hA hA'
        have X0 := fun s : Later wr => s.cell ((hb.cell (p := ⟨b, o + k, none⟩) hbb).trans hc)
        have X1 := fun s : Later wr => s.cell ((hb.cell (p := ⟨b', o' + k, none⟩) hbb').trans hc')
        clear hc hc'
        generalize hlk : x[k] = u at *
        generalize hlm : y[k] = v at *
        clear hlk hlm
        have i0 : (0 : Int) ≤ (k : Int) := by omega
        have i1 : (k : Int) < (x.length : Int) := by omega
        have i2 : (k : Int) < (y.length : Int) := by omega
        by_cases huv : u = v
        · have d1 : (u != v) = false := by simp [huv]
          have hst' : Hid (decide (x.drop k = y.drop k) = decide (x.drop (k + 1) = y.drop (k + 1))) := hid (by rw [hst.out]; simp [huv])
          clear huv
          go_wp2_with fail
          refine wp_region_later (by kernel_rfl) (by kernel_rfl) ?_
          repeat (go_big_quiet_step (fail))
          refine wpQuiet_nil ?_
          rintro W5 ⟨⟨W5', hb5⟩, rfl⟩
          go_wp2
          go_roundw
          case rel => exact ⟨k + 1, by omega, by go_num, hid (by rw [hf.out, hst'.out]), below_then hb5 hb⟩
          case measure => simp [intOf]; omega
        · have d1 : (u != v) = true := by simp [huv]
          have hff : Hid (decide (x = y) = false) := hid (by rw [hf.out, hst.out]; simp [huv])
          clear huv
          go_wp2_with fail
          refine wp_region_later (by kernel_rfl) (by kernel_rfl) ?_
          repeat (go_big_quiet_step (fail))
          refine wpQuiet_nil ?_
          rintro W5 ⟨⟨W5', hb5⟩, rfl⟩
          go_wp2
          go_ret
          exact ⟨by rw [hff.out]; rfl, below_then hb5 hb⟩
      · obtain rfl : k = x.length := by omega
        have hff : Hid (decide (x = y) = true) := hid (by rw [hf.out, List.drop_length, List.drop_of_length_le (by rw [HL.out]; exact Nat.le_refl _)]; rfl)
        go_wp2
        go_ret
        exact ⟨by rw [hff.out]; rfl, hb⟩
  · have hff : Hid (decide (x = y) = false) := hid (by simp; rintro rfl; exact hl rfl)
    have e1 : ((x.length : Int) != (y.length : Int)) = true := by simp; omega
    clear hl hx hy
    go_enter Tryz.func99, Tryz.ntmps99
    go_wp2
    go_ret
    exact ⟨by rw [hff.out]; rfl, Below.refl _ _⟩
end Go.Proofs.YtlbffbkbkajciaaGreat
namespace Go.Bs
open Go.RowKit
set_option linter.unusedVariables false

structure Seal where
  epoch : Int
  node : Int
  tail : Int
  deriving DecidableEq
structure Stripe where
  lo : Int
  hi : Int
  sets : List (List Int)
  deriving DecidableEq
structure Projn where
  epoch : Int
  stripes : List Stripe
  deriving DecidableEq
structure Msg where
  kind : Int
  epoch : Int
  seq : Int
  pos : Int
  count : Int
  state : Int
  streams : List Int
  links : List Link
  data : List UInt8
  sea : Seal
  proj : Projn
  deriving DecidableEq

def rSeal : Rp Seal := rBy (fun s => (s.epoch, s.node, s.tail)) (rPair (rInt .u64) (rPair (rInt .u64) (rInt .u64)))
def rSets : Rp (List (List Int)) := rSl 1 rU64s
def rStripe : Rp Stripe := rBy (fun s => (s.lo, s.hi, s.sets)) (rPair (rInt .u64) (rPair (rInt .u64) rSets))
def rStripes : Rp (List Stripe) := rSl 3 rStripe
def rProjn : Rp Projn := rBy (fun p => (p.epoch, p.stripes)) (rPair (rInt .u64) rStripes)
def rMsg : Rp Msg := rBy (fun m => (m.kind, m.epoch, m.seq, m.pos, m.count, m.state, m.streams, m.links, m.data, m.sea, m.proj))
  (rPair (rInt .i64) (rPair (rInt .u64) (rPair (rInt .u64) (rPair (rInt .u64) (rPair (rInt .i64) (rPair (rInt .i64) (rPair rU64s (rPair rLinks (rPair rBytes (rPair rSeal rProjn))))))))))

def inU (x : Int) : Prop := 0 ≤ x ∧ x ≤ 18446744073709551615
def inI (x : Int) : Prop := -9223372036854775808 ≤ x ∧ x ≤ 9223372036854775807

section
variable {S : Nat → Prop} {w : World} {cs : List Value}
theorem seal_cells {x : Seal} (h : rSeal.r S w cs x) : cs = [.int .u64 x.epoch, .int .u64 x.node, .int .u64 x.tail] ∧ inU x.epoch ∧ inU x.node ∧ inU x.tail := by
  obtain ⟨c1, c2, rfl, ⟨rfl, h1⟩, c3, c4, rfl, ⟨rfl, h2⟩, rfl, h3⟩ := h
  exact ⟨rfl, bounds_u64 h1, bounds_u64 h2, bounds_u64 h3⟩
theorem stripe_cells {x : Stripe} (h : rStripe.r S w cs x) : ∃ a c, cs = [.int .u64 x.lo, .int .u64 x.hi, .slice a x.sets.length c] ∧ inU x.lo ∧ inU x.hi ∧ rSets.r S w [.slice a x.sets.length c] x.sets := by
  obtain ⟨c1, c2, rfl, ⟨rfl, h1⟩, c3, c4, rfl, ⟨rfl, h2⟩, h3⟩ := h
  obtain ⟨a, c, rfl, h4, _⟩ := sl_form h3
  exact ⟨a, c, rfl, bounds_u64 h1, bounds_u64 h2, h4⟩
theorem projn_cells {x : Projn} (h : rProjn.r S w cs x) : ∃ a c, cs = [.int .u64 x.epoch, .slice a x.stripes.length c] ∧ inU x.epoch ∧ rStripes.r S w [.slice a x.stripes.length c] x.stripes := by
  obtain ⟨c1, c2, rfl, ⟨rfl, h1⟩, h3⟩ := h
  obtain ⟨a, c, rfl, h4, _⟩ := sl_form h3
  exact ⟨a, c, rfl, bounds_u64 h1, h4⟩
/-- A message's cells, the slices' places told. -/
def msgCells (m : Msg) (a1 : Option Addr) (c1 : Nat) (a2 : Option Addr) (c2 : Nat) (a3 : Option Addr) (c3 : Nat) (a4 : Option Addr) (c4 : Nat) : List Value :=
  [.int .i64 m.kind, .int .u64 m.epoch, .int .u64 m.seq, .int .u64 m.pos, .int .i64 m.count, .int .i64 m.state, .slice a1 m.streams.length c1, .slice a2 m.links.length c2, .slice a3 m.data.length c3,
   .int .u64 m.sea.epoch, .int .u64 m.sea.node, .int .u64 m.sea.tail, .int .u64 m.proj.epoch, .slice a4 m.proj.stripes.length c4]
structure MsgIn (S : Nat → Prop) (w : World) (m : Msg) (a1 : Option Addr) (c1 : Nat) (a2 : Option Addr) (c2 : Nat) (a3 : Option Addr) (c3 : Nat) (a4 : Option Addr) (c4 : Nat) : Prop where
  kind : inI m.kind
  epoch : inU m.epoch
  seq : inU m.seq
  pos : inU m.pos
  count : inI m.count
  state : inI m.state
  sealE : inU m.sea.epoch
  sealN : inU m.sea.node
  sealT : inU m.sea.tail
  projE : inU m.proj.epoch
  streams : rU64s.r S w [.slice a1 m.streams.length c1] m.streams
  links : rLinks.r S w [.slice a2 m.links.length c2] m.links
  data : rBytes.r S w [.slice a3 m.data.length c3] m.data
  stripes : rStripes.r S w [.slice a4 m.proj.stripes.length c4] m.proj.stripes
theorem msg_cells {x : Msg} (h : rMsg.r S w cs x) : ∃ a1 c1 a2 c2 a3 c3 a4 c4, cs = msgCells x a1 c1 a2 c2 a3 c3 a4 c4 ∧ MsgIn S w x a1 c1 a2 c2 a3 c3 a4 c4 := by
  obtain ⟨_, _, rfl, ⟨rfl, h1⟩, _, _, rfl, ⟨rfl, h2⟩, _, _, rfl, ⟨rfl, h3⟩, _, _, rfl, ⟨rfl, h4⟩, _, _, rfl, ⟨rfl, h5⟩, _, _, rfl, ⟨rfl, h6⟩, _, _, rfl, h7, _, _, rfl, h8, _, _, rfl, h9, _, _, rfl, h10, h11⟩ := h
  obtain ⟨a1, c1, rfl, g1, _⟩ := sl_form h7
  obtain ⟨a2, c2, rfl, g2, _⟩ := sl_form h8
  obtain ⟨a3, c3, rfl, g3, _⟩ := sl_form h9
  obtain ⟨rfl, s1, s2, s3⟩ := seal_cells h10
  obtain ⟨a4, c4, rfl, p1, g4⟩ := projn_cells h11
  exact ⟨a1, c1, a2, c2, a3, c3, a4, c4, rfl, bounds_i64 h1, bounds_u64 h2, bounds_u64 h3, bounds_u64 h4, bounds_i64 h5, bounds_i64 h6, s1, s2, s3, p1, g1, g2, g3, g4⟩
theorem stripe_mk {x : Stripe} {v : Value} (h0 : inU x.lo) (h1 : inU x.hi) (h : rSets.r S w [v] x.sets) : rStripe.r S w [.int .u64 x.lo, .int .u64 x.hi, v] x :=
  ⟨[_], [_, _], rfl, ⟨rfl, u64_wf h0⟩, [_], [_], rfl, ⟨rfl, u64_wf h1⟩, h⟩
theorem set_at {xs : List (List Int)} {a : Option Addr} {n c : Nat} (h : rSets.r S w [.slice a n c] xs) {i : Nat} (hi : i < xs.length) : ∃ b off, a = some ⟨b, off, none⟩ ∧ S b ∧ ∃ a' c', w.cell? ⟨b, off + i, none⟩ = some (.slice a' xs[i].length c') ∧ rU64s.r S w [.slice a' xs[i].length c'] xs[i] := by
  obtain ⟨b, off, e, hS, cs, _, hc, hA⟩ := sl_at h hi
  obtain ⟨a', c', rfl, h1, _⟩ := sl_form hA
  have := hc 0 _ rfl
  rw [Nat.mul_one, Nat.add_zero] at this
  exact ⟨b, off, e, hS, a', c', this, h1⟩
theorem stripe_at {xs : List Stripe} {a : Option Addr} {n c : Nat} (h : rStripes.r S w [.slice a n c] xs) {i : Nat} (hi : i < xs.length) : ∃ b off, a = some ⟨b, off, none⟩ ∧ S b ∧ ∃ a' c', w.cell? ⟨b, off + i * 3, none⟩ = some (.int .u64 xs[i].lo) ∧ w.cell? ⟨b, off + i * 3 + 1, none⟩ = some (.int .u64 xs[i].hi) ∧ w.cell? ⟨b, off + i * 3 + 2, none⟩ = some (.slice a' xs[i].sets.length c') ∧
    inU xs[i].lo ∧ inU xs[i].hi ∧ rSets.r S w [.slice a' xs[i].sets.length c'] xs[i].sets := by
  obtain ⟨b, off, e, hS, cs, _, hc, hA⟩ := sl_at h hi
  obtain ⟨a', c', rfl, h1, h2, h3⟩ := stripe_cells hA
  exact ⟨b, off, e, hS, a', c', hc 0 _ rfl, hc 1 _ rfl, hc 2 _ rfl, h1, h2, h3⟩
end

/-! What is well-formed. -/
def sealR (s : Seal) : Bool := epR s.epoch && (decide (s.node ≤ 4294967295) && decide (s.tail ≤ 4611686018427387904))
def nodesR (l : List Int) : Bool := decide (1 ≤ l.length ∧ l.length ≤ 8) && (risesB l && decide (l.getLastD 0 ≤ 4294967295))
def apartR (l : List Int) (others : List (List Int)) : Bool := others.all fun o => l.all fun n => !o.contains n
/-- The sets from the i-th on. -/
def setR (L : List (List Int)) (i : Nat) : Bool := nodesR (L.getD i []) && apartR (L.getD i []) (L.take i)
def setsR (L : List (List Int)) : Nat → Bool
  | 0 => true
  | n + 1 => setsR L n && setR L n
def stripeR (s : Stripe) : Bool := decide (s.lo < s.hi ∧ s.hi ≤ 4611686018427387904 ∧ 1 ≤ s.sets.length ∧ s.sets.length ≤ 8) && setsR s.sets s.sets.length
/-- Stripes that follow one another from a place on. -/
def chainP : Int → List Stripe → Bool
  | p, [] => decide (p = 4611686018427387904)
  | p, s :: l => decide (s.lo = p) && (stripeR s && chainP s.hi l)
def projR (p : Projn) : Bool := epR p.epoch && (decide (1 ≤ p.stripes.length ∧ p.stripes.length ≤ 64) && chainP 0 p.stripes)

/-- The parts of a kind, as bits. -/
def partsK (k : Int) : Nat := if k < 1 ∨ 14 < k then 0 else [0, 1, 33, 0, 1, 1, 10, 0, 128, 36, 0, 64, 17, 128, 4].getD k.toNat 0
def hasK (k : Int) (p : Nat) : Bool := partsK k / p % 2 == 1
def mostK (k : Int) : Int := if k = 9 then 4 else 20
def blockK (k st : Int) : Bool := decide (k = 2) || (decide (k = 9) && decide (st = 1))
def withinR (h r z : Bool) : Bool := if h then r else z
def noSeal : Seal := ⟨0, 0, 0⟩
def msgR (m : Msg) : Bool :=
  decide (1 ≤ m.kind ∧ m.kind ≤ 14) && (withinR (hasK m.kind 1) (poR m.pos) (decide (m.pos = 0)) && (withinR (hasK m.kind 2) (decide (1 ≤ m.count ∧ m.count ≤ 65536)) (decide (m.count = 0)) &&
  (withinR (hasK m.kind 4) (decide (1 ≤ m.state ∧ m.state ≤ mostK m.kind)) (decide (m.state = 0)) && (withinR (hasK m.kind 8) (decide (m.streams.length ≤ 16) && risesB m.streams) (decide (m.streams.length = 0)) &&
  (withinR (hasK m.kind 16) (linksR m.pos m.links) (decide (m.links.length = 0)) && (withinR (hasK m.kind 64) (sealR m.sea) (decide (m.sea = noSeal)) &&
  (withinR (hasK m.kind 128) (projR m.proj) (decide (m.proj.epoch = 0) && decide (m.proj.stripes.length = 0)) && (decide (m.data.length = 0) || (blockK m.kind m.state && decide (m.data.length ≤ 1048576))))))))))
theorem partsK_mem (k : Int) : partsK k ∈ [0, 1, 33, 10, 128, 36, 64, 17, 4] := by
  unfold partsK
  split
  · simp
  · rename_i h
    have h' : k.toNat = 1 ∨ k.toNat = 2 ∨ k.toNat = 3 ∨ k.toNat = 4 ∨ k.toNat = 5 ∨ k.toNat = 6 ∨ k.toNat = 7 ∨ k.toNat = 8 ∨ k.toNat = 9 ∨ k.toNat = 10 ∨ k.toNat = 11 ∨ k.toNat = 12 ∨ k.toNat = 13 ∨ k.toNat = 14 := by omega
    rcases h' with h | h | h | h | h | h | h | h | h | h | h | h | h | h <;> rw [h] <;> decide
theorem hasK_data (k : Int) : hasK k 32 = (decide (k = 2) || decide (k = 9)) := by
  unfold hasK partsK
  split
  · have h1 : decide (k = 2) = false := decide_eq_false (by omega)
    have h2 : decide (k = 9) = false := decide_eq_false (by omega)
    rw [h1, h2]; decide
  · rename_i h
    have h' : k = 1 ∨ k = 2 ∨ k = 3 ∨ k = 4 ∨ k = 5 ∨ k = 6 ∨ k = 7 ∨ k = 8 ∨ k = 9 ∨ k = 10 ∨ k = 11 ∨ k = 12 ∨ k = 13 ∨ k = 14 := by omega
    rcases h' with h | h | h | h | h | h | h | h | h | h | h | h | h | h <;> subst h <;> decide
end Go.Bs
namespace Go.Bs
open Go.RowKit
set_option linter.unusedVariables false
section
variable {P : Program} {w : World}

/-- What a slice value's cells are, up to its length. -/
def Src (w : World) (A : Option Addr) (m sz : Nat) (news : List Value) : Prop :=
  news.length = m * sz ∧ (m = 0 ∨ ∃ b o, A = some ⟨b, o, none⟩ ∧ ∀ j u, news[j]? = some u → w.cell? ⟨b, o + j, none⟩ = some u)

theorem run_append_nilsrc (base : Nat) (t ty e : TypeId) (i : TypeInfo) (size : Nat) (ht : P.underlying t = some (.slice e)) (hi : P.info? e = some i)
    (v : Value) (n : Nat) (xs : List Value) (hown : w.ownsRow base e size v n xs) (c : Nat) : (Builtin.append_ #[t, t] ty #[v, .slice none 0 c]).run P w = .ok v w := by
  rcases hown.2 with ⟨rfl, rfl⟩ | ⟨g, cap, cur, rfl, _, _, hnc, _⟩
  · simp [Builtin.append_, run_underlying ht, sizeOf, typeInfo, hi, Builtin.lenOf, Builtin.firstCells]
  · simp [Builtin.append_, run_underlying ht, sizeOf, typeInfo, hi, Builtin.lenOf, Builtin.firstCells, hnc, storeCells]

theorem add_plain (b o j : Nat) : (⟨b, o, none⟩ : Addr).add j = ⟨b, o + j, none⟩ := by
  unfold Addr.add
  split
  · rename_i h; subst h; rfl
  · rfl

theorem run_append_src (base : Nat) (t ty e : TypeId) (i : TypeInfo) (z : Value) (size bytes : Nat) (ht : P.underlying t = some (.slice e)) (hi : P.info? e = some i) (hz : i.zero = some z)
    (hsize : i.size = size) (hby : i.bytes = bytes) (hzs : z.cells.size = size) (hsz : 0 < size)
    (v : Value) (n : Nat) (xs : List Value) (hown : w.ownsRow base e size v n xs) (A : Option Addr) (m c : Nat) (news : List Value) (hs : Src w A m size news) (h1 : ∀ u ∈ news, u.oneCell' = true)
    (h63 : n + m ≤ maxLen) (hbytes : (n + m) * bytes ≤ 140737488355328) (hbase : base ≤ w.heap.size) :
    ∃ v' w', (Builtin.append_ #[t, t] ty #[v, .slice A m c]).run P w = .ok v' w' ∧ w'.ownsRow base e size v' (n + m) (xs ++ news) ∧ w.grownBy w' v.ownBlock ∧ (v'.ownBlock = v.ownBlock ∨ v'.ownBlock = some w.heap.size) := by
  obtain ⟨hl, hs⟩ := hs
  rcases A with _ | ad
  · have hm : m = 0 := by
      rcases hs with h | ⟨b, o, h, _⟩
      · exact h
      · cases h
    subst hm
    have hn : news = [] := List.eq_nil_of_length_eq_zero (by simpa using hl)
    subst hn
    exact ⟨v, w, run_append_nilsrc base t ty e i size ht hi v n xs hown c, by simpa using hown, World.grownBy.refl w _, .inl rfl⟩
  · have hcells : ∀ j u, news[j]? = some u → w.cell? (ad.add j) = some u := by
      intro j u hu
      rcases hs with h | ⟨b, o, h, hc⟩
      · subst h
        have hn : news = [] := List.eq_nil_of_length_eq_zero (by simpa using hl)
        subst hn
        simp at hu
      · injection h with h
        subst h
        rw [add_plain]; exact hc j u hu
    obtain ⟨v', w', hrun, h2, h3, _, h5⟩ := run_append_own_at (P := P) w base t ty e i z size bytes ht hi hz hsize hby hzs hsz v n xs hown ad m c news hl hcells h1 h63 hbytes hbase
    exact ⟨v', w', hrun, h2, h3, h5⟩

theorem wpList_append_src {ops : Array Oper} {rest : List Oper} {o : Oper} {a : Act} {Q : Exit → Act → World → Prop} (hgd : o.guard = none) (s x : Operand) (t : TypeId)
    (ho : o.op = .call { callee := .builtin .append, args := #[s, x], argTypes := #[t, t] })
    (base : Nat) (e : TypeId) (i : TypeInfo) (z : Value) (size bytes : Nat) (ht : P.underlying t = some (.slice e)) (hi : P.info? e = some i) (hz : i.zero = some z)
    (hsize : i.size = size) (hby : i.bytes = bytes) (hzs : z.cells.size = size) (hsz : 0 < size)
    (v : Value) (n : Nat) (xs : List Value) (hs : a.eval s = v) (hown : w.ownsRow base e size v n xs)
    (A : Option Addr) (m c : Nat) (news : List Value) (hx : a.eval x = .slice A m c) (hsrc : Src w A m size news) (h1 : ∀ u ∈ news, u.oneCell' = true)
    (h63 : n + m ≤ maxLen) (hbytes : (n + m) * bytes ≤ 140737488355328) (hbase : base ≤ w.heap.size)
    (h : ∀ v' w', w'.ownsRow base e size v' (n + m) (xs ++ news) → w.grownBy w' v.ownBlock → (v'.ownBlock = v.ownBlock ∨ v'.ownBlock = some w.heap.size) → wpList P ops Q rest (a.put o.dst v') w') : wpList P ops Q (o :: rest) a w :=
  wpList_plain hgd fun _ hK => by
    obtain ⟨v', w', hrun, h2, h3, h4⟩ := run_append_src (P := P) base t o.type e i z size bytes ht hi hz hsize hby hzs hsz v n xs hown A m c news hsrc h1 h63 hbytes hbase
    unfold Oper.wp execOp
    simp only [ho, resolve, invoke, builtin, Sem.run_bind, Sem.run_pure, Result.andThen_ok, List.map_toArray, List.map_cons, List.map_nil, hs, hx, hrun]
    exact hK _ _ (h v' w' h2 h3 h4)

def byteCells (l : List UInt8) : List Value := l.map fun b => .int .u8 (b.toNat : Int)
theorem byteCells_one (l : List UInt8) : ∀ u ∈ byteCells l, u.oneCell' = true := by
  intro u hu
  obtain ⟨b, _, rfl⟩ := List.mem_map.1 hu
  rfl
theorem src_bytes {S : Nat → Prop} {a : Option Addr} {n c : Nat} {l : List UInt8} (h : rBytes.r S w [.slice a n c] l) : Src w a l.length 1 (byteCells l) := by
  refine ⟨by simp [byteCells], ?_⟩
  rcases l with _ | ⟨x, l⟩
  · exact .inl rfl
  · right
    obtain ⟨b, o, e, _⟩ := byte_at h (i := 0) (by simp)
    refine ⟨b, o, e, fun j u hu => ?_⟩
    have hj : j < (x :: l).length := by
      have := (List.getElem?_eq_some_iff.1 hu).1
      simpa [byteCells] using this
    obtain ⟨b', o', e', _, hc⟩ := byte_at h hj
    rw [e] at e'
    simp at e'
    obtain ⟨rfl, rfl⟩ := e'
    have : u = .int .u8 (((x :: l)[j]).toNat : Int) := by
      simp only [byteCells, List.getElem?_map, List.getElem?_eq_getElem hj, Option.map_some, Option.some.injEq] at hu
      exact hu.symm
    rw [this]; exact hc

/-- An owned row of bytes reads as those bytes. -/
theorem own_bytes {base : Nat} {e : TypeId} {v : Value} {l : List UInt8} {n : Nat} (hn : n = l.length) (h : w.ownsRow base e 1 v n (byteCells l)) : rBytes.r (· < w.heap.size) w [v] l := by
  subst hn
  rcases h.2 with ⟨rfl, h0⟩ | ⟨g, cap, cur, rfl, hbg, hg, hn, hc, hcur, hx⟩
  · have : l = [] := List.eq_nil_of_length_eq_zero h0
    subst this
    exact rSl_mk rfl (Nat.le_refl _) (Nat.zero_le _) (.inl rfl)
  · refine rSl_mk rfl hn hc (.inr ⟨g, 0, rfl, Blk.lt hg, fun i x hi => ⟨[.int .u8 (x.toNat : Int)], rfl, fun j v hj => ?_, rfl⟩⟩)
    have hj0 : j = 0 := by
      rcases j with _ | j
      · rfl
      · simp at hj
    subst hj0
    simp at hj
    subst hj
    have hi' : i < l.length := (List.getElem?_eq_some_iff.1 hi).1
    rw [Nat.zero_add, Nat.mul_one, Nat.add_zero, Blk.cell hg i]
    have e1 : cur[i]? = (cur.toList.take (l.length * 1))[i]? := by
      rw [List.getElem?_take, if_pos (by omega)]; simp
    rw [e1, hx, byteCells, List.getElem?_map, hi]; rfl
end
end Go.Bs
namespace Go.Bs
open Go.RowKit
set_option linter.unusedVariables false
set_option linter.unusedSimpArgs false
section
variable {w w' : World} {α : Type}

/-- v is an own slice whose elements stand for xs, and no element reaches into the slice's own block. -/
def OwnElsAt (lo : Nat) (A : Rp α) (base : Nat) (e : TypeId) (sz : Nat) (w : World) (v : Value) (xs : List α) (cells : List (List Value)) : Prop :=
  w.ownsRow base e sz v xs.length cells.flatten ∧ cells.length = xs.length ∧ (∀ c ∈ cells, c.length = sz) ∧
    ∀ (i : Nat) cs x, cells[i]? = some cs → xs[i]? = some x → A.r (fun b => lo ≤ b ∧ b < w.heap.size ∧ v.ownBlock ≠ some b) w cs x
def OwnEls (lo : Nat) (A : Rp α) (base : Nat) (e : TypeId) (sz : Nat) (w : World) (v : Value) (xs : List α) : Prop := ∃ cells, OwnElsAt lo A base e sz w v xs cells

theorem flatten_at (sz : Nat) : ∀ (l : List (List Value)), (∀ c ∈ l, c.length = sz) → ∀ (i j : Nat) cs v, l[i]? = some cs → cs[j]? = some v → l.flatten[i * sz + j]? = some v
  | [], _, i, j, cs, v, h, _ => by simp at h
  | c :: l, hl, i, j, cs, v, h, hj => by
    have hc := hl c (List.mem_cons_self ..)
    rw [List.flatten_cons]
    cases i with
    | zero =>
      simp at h
      subst h
      have := (List.getElem?_eq_some_iff.1 hj).1
      rw [Nat.zero_mul, Nat.zero_add, List.getElem?_append_left (by omega)]
      exact hj
    | succ i =>
      simp at h
      rw [List.getElem?_append_right (by rw [hc, Nat.succ_mul]; omega), hc, show (i + 1) * sz + j - sz = i * sz + j by rw [Nat.succ_mul]; omega]
      exact flatten_at sz l (fun c h => hl c (List.mem_cons_of_mem _ h)) i j cs v h hj

theorem OwnEls.nil {lo : Nat} {A : Rp α} {base : Nat} {e : TypeId} {sz : Nat} : OwnEls lo A base e sz w (.slice none 0 0) [] :=
  ⟨[], ⟨by simp, .inl ⟨rfl, rfl⟩⟩, rfl, (by simp), fun i cs x h => by simp at h⟩

theorem OwnEls.slice {lo : Nat} {A : Rp α} {base : Nat} {e : TypeId} {sz : Nat} {v : Value} {xs : List α} (hlo : lo ≤ base) (h : OwnEls lo A base e sz w v xs) : (rSl sz A).r (fun b => lo ≤ b ∧ b < w.heap.size) w [v] xs := by
  obtain ⟨cells, hown, hlen, hsz, hA⟩ := h
  rcases hown.2 with ⟨rfl, h0⟩ | ⟨g, cap, cur, rfl, hbg, hg, hn, hc, hcur, hx⟩
  · have : xs = [] := List.eq_nil_of_length_eq_zero h0
    subst this
    exact rSl_mk rfl (Nat.le_refl _) (Nat.zero_le _) (.inl rfl)
  · refine rSl_mk rfl hn hc (.inr ⟨g, 0, rfl, ⟨Nat.le_trans hlo hbg, (Array.getElem?_eq_some_iff.1 hg).1⟩, fun i x hi => ?_⟩)
    have hi' : i < xs.length := (List.getElem?_eq_some_iff.1 hi).1
    have hic : i < cells.length := by omega
    have hcs : cells[i]? = some cells[i] := List.getElem?_eq_getElem hic
    refine ⟨cells[i], hsz _ (List.getElem_mem hic), fun j v hj => ?_, A.mono (hA i _ x hcs hi) fun b h => ⟨h.1, h.2.1⟩⟩
    have hj' : j < sz := by have := (List.getElem?_eq_some_iff.1 hj).1; rw [hsz _ (List.getElem_mem hic)] at this; exact this
    have hf := flatten_at sz cells hsz i j _ v hcs hj
    rw [Nat.zero_add, show (⟨g, i * sz + j, none⟩ : Addr) = ⟨g, i * sz + j, none⟩ from rfl, Blk.cell hg (i * sz + j)]
    have hb : i * sz + j < xs.length * sz := by
      have := Nat.mul_le_mul_right sz (show i + 1 ≤ xs.length from hi')
      rw [Nat.succ_mul] at this
      omega
    have e1 : cur[i * sz + j]? = (cur.toList.take (xs.length * sz))[i * sz + j]? := by
      rw [List.getElem?_take, if_pos hb]; simp
    rw [e1, hx]; exact hf

/-- A slice whose cells may be written, and into whose block no element reaches. -/
def rSlW {α : Type} (sz : Nat) (A : Rp α) : Rp (List α) :=
  ⟨fun S w cs xs => ∃ a c, cs = [.slice a xs.length c] ∧ xs.length ≤ c ∧ c ≤ maxLen ∧ (xs = [] ∨ ∃ b off, a = some ⟨b, off, none⟩ ∧ S b ∧ ∀ (i : Nat) x, xs[i]? = some x → ∃ cs : List Value, cs.length = sz ∧
      (∀ (j : Nat) v, cs[j]? = some v → w.cell? ⟨b, off + i * sz + j, none⟩ = some v ∧ w.frozen? ⟨b, off + i * sz + j, none⟩ = false) ∧ A.r (fun q => S q ∧ q ≠ b) w cs x),
   fun ⟨a, c, h, h1, h2, h3⟩ hk => ⟨a, c, h, h1, h2, h3.imp id fun ⟨b, off, e, hb, hr⟩ => ⟨b, off, e, hb, fun i x hi =>
     let ⟨cs, hl, hc, hA⟩ := hr i x hi
     ⟨cs, hl, fun j v hj => ⟨(World.cell?_of_block (a := ⟨b, off + i * sz + j, none⟩) (hk b hb)).trans (hc j v hj).1, (World.frozen?_of_block (a := ⟨b, off + i * sz + j, none⟩) (hk b hb)).trans (hc j v hj).2⟩, A.keep hA fun q hq => hk q hq.1⟩⟩⟩,
   fun ⟨a, c, h, h1, h2, h3⟩ hk => ⟨a, c, h, h1, h2, h3.imp id fun ⟨b, off, e, hb, hr⟩ => ⟨b, off, e, hk b hb, fun i x hi =>
     let ⟨cs, hl, hc, hA⟩ := hr i x hi
     ⟨cs, hl, hc, A.mono hA fun q hq => ⟨hk q hq.1, hq.2⟩⟩⟩⟩⟩
theorem slW_sl {sz : Nat} {A : Rp α} {S : Nat → Prop} {cs : List Value} {xs : List α} (h : (rSlW sz A).r S w cs xs) : (rSl sz A).r S w cs xs := by
  obtain ⟨a, c, h1, h2, h3, h4⟩ := h
  refine ⟨a, c, h1, h2, h3, h4.imp id fun ⟨b, off, e, hb, hr⟩ => ⟨b, off, e, hb, fun i x hi => ?_⟩⟩
  obtain ⟨cs, h5, h6, h7⟩ := hr i x hi
  exact ⟨cs, h5, fun j v hj => (h6 j v hj).1, A.mono h7 fun q hq => hq.1⟩
def rLinksW : Rp (List Link) := rSlW 2 rLink
theorem linksW_links {S : Nat → Prop} {cs : List Value} {x : List Link} (h : rLinksW.r S w cs x) : rLinks.r S w cs x := slW_sl h
theorem OwnEls.sliceW {lo : Nat} {A : Rp α} {base : Nat} {e : TypeId} {sz : Nat} {v : Value} {xs : List α} (hlo : lo ≤ base) (h : OwnEls lo A base e sz w v xs) : (rSlW sz A).r (fun b => lo ≤ b ∧ b < w.heap.size) w [v] xs := by
  obtain ⟨cells, hown, hlen, hsz, hA⟩ := h
  rcases hown.2 with ⟨rfl, h0⟩ | ⟨g, cap, cur, rfl, hbg, hg, hn, hc, hcur, hx⟩
  · have : xs = [] := List.eq_nil_of_length_eq_zero h0
    subst this
    exact ⟨none, 0, rfl, Nat.le_refl _, Nat.zero_le _, .inl rfl⟩
  · refine ⟨_, cap, rfl, hn, hc, .inr ⟨g, 0, rfl, ⟨Nat.le_trans hlo hbg, (Array.getElem?_eq_some_iff.1 hg).1⟩, fun i x hi => ?_⟩⟩
    have hi' : i < xs.length := (List.getElem?_eq_some_iff.1 hi).1
    have hic : i < cells.length := by omega
    have hcs : cells[i]? = some cells[i] := List.getElem?_eq_getElem hic
    refine ⟨cells[i], hsz _ (List.getElem_mem hic), fun j v hj => ⟨?_, Blk.free hg _⟩, A.mono (hA i _ x hcs hi) fun b h => ⟨⟨h.1, h.2.1⟩, fun e => h.2.2 (by rw [e]; rfl)⟩⟩
    have hj' : j < sz := by have := (List.getElem?_eq_some_iff.1 hj).1; rw [hsz _ (List.getElem_mem hic)] at this; exact this
    have hf := flatten_at sz cells hsz i j _ v hcs hj
    rw [Nat.zero_add, show (⟨g, i * sz + j, none⟩ : Addr) = ⟨g, i * sz + j, none⟩ from rfl, Blk.cell hg (i * sz + j)]
    have hb : i * sz + j < xs.length * sz := by
      have := Nat.mul_le_mul_right sz (show i + 1 ≤ xs.length from hi')
      rw [Nat.succ_mul] at this
      omega
    have e1 : cur[i * sz + j]? = (cur.toList.take (xs.length * sz))[i * sz + j]? := by
      rw [List.getElem?_take, if_pos hb]; simp
    rw [e1, hx]; exact hf

theorem OwnElsAt.push {lo : Nat} {A : Rp α} {base : Nat} {e : TypeId} {sz : Nat} {v v' : Value} {xs : List α} {news : List Value} {x : α} {cells : List (List Value)} (h : OwnElsAt lo A base e sz w v xs cells)
    (hn : news.length = sz) (hx : A.r (fun b => lo ≤ b ∧ b < w.heap.size ∧ v.ownBlock ≠ some b) w news x)
    (hown : w'.ownsRow base e sz v' (xs.length + 1) (cells.flatten ++ news)) (hg : w.grownBy w' v.ownBlock) (hat : v'.ownBlock = v.ownBlock ∨ v'.ownBlock = some w.heap.size) (hsz' : w.heap.size ≤ w'.heap.size) : OwnElsAt lo A base e sz w' v' (xs ++ [x]) (cells ++ [news]) := by
  obtain ⟨ho, hlen, hsz, hA⟩ := h
  have lift : ∀ cs y, A.r (fun b => lo ≤ b ∧ b < w.heap.size ∧ v.ownBlock ≠ some b) w cs y → A.r (fun b => lo ≤ b ∧ b < w'.heap.size ∧ v'.ownBlock ≠ some b) w' cs y := fun cs y hr =>
    A.mono (A.keep hr fun b hb => hg.block b hb.2.1 (fun e => hb.2.2 e.symm)) fun b hb => ⟨hb.1, Nat.lt_of_lt_of_le hb.2.1 hsz', fun e => by
      rcases hat with h | h
      · exact hb.2.2 (h ▸ e)
      · rw [h] at e; have := Option.some.inj e; have := hb.2.1; omega⟩
  refine ⟨?_, by simp [hlen], ?_, ?_⟩
  · rw [List.flatten_append, List.length_append]
    simpa using hown
  · intro c hc
    rcases List.mem_append.1 hc with h | h
    · exact hsz c h
    · simp at h; subst h; exact hn
  · intro i cs y hi hy
    by_cases hlt : i < xs.length
    · rw [List.getElem?_append_left (by omega)] at hi
      rw [List.getElem?_append_left hlt] at hy
      exact lift _ _ (hA i cs y hi hy)
    · have hii : i = xs.length := by
        have := (List.getElem?_eq_some_iff.1 hy).1
        simp at this
        omega
      subst hii
      rw [List.getElem?_append_right (by omega)] at hi
      rw [List.getElem?_append_right (Nat.le_refl _)] at hy
      simp [hlen] at hi
      simp at hy
      subst hi hy
      exact lift _ _ hx

theorem OwnEls.push {lo : Nat} {A : Rp α} {base : Nat} {e : TypeId} {sz : Nat} {v v' : Value} {xs : List α} {news : List Value} {x : α} {cells : List (List Value)} (h : OwnElsAt lo A base e sz w v xs cells)
    (hn : news.length = sz) (hx : A.r (fun b => lo ≤ b ∧ b < w.heap.size ∧ v.ownBlock ≠ some b) w news x)
    (hown : w'.ownsRow base e sz v' (xs.length + 1) (cells.flatten ++ news)) (hg : w.grownBy w' v.ownBlock) (hat : v'.ownBlock = v.ownBlock ∨ v'.ownBlock = some w.heap.size) (hsz' : w.heap.size ≤ w'.heap.size) : OwnEls lo A base e sz w' v' (xs ++ [x]) :=
  ⟨_, OwnElsAt.push h hn hx hown hg hat hsz'⟩

/-- A world that has only grown keeps it. -/
theorem OwnEls.below {lo : Nat} {A : Rp α} {base : Nat} {e : TypeId} {sz : Nat} {v : Value} {xs : List α} (h : OwnEls lo A base e sz w v xs) (hb : Below w.heap.size w w') : OwnEls lo A base e sz w' v xs := by
  obtain ⟨cells, ho, hlen, hsz, hA⟩ := h
  refine ⟨cells, ⟨ho.1, ?_⟩, hlen, hsz, fun i cs x hi hx => A.mono (A.keep (hA i cs x hi hx) fun b h => hb.block b h.2.1) fun b h => ⟨h.1, Nat.lt_of_lt_of_le h.2.1 hb.size, h.2.2⟩⟩
  rcases ho.2 with h0 | ⟨g, cap, cur, h1, h2, h3, h4⟩
  · exact .inl h0
  · exact .inr ⟨g, cap, cur, h1, h2, by rw [hb.block g (Array.getElem?_eq_some_iff.1 h3).1]; exact h3, h4⟩

theorem OwnElsAt.below {lo : Nat} {A : Rp α} {base : Nat} {e : TypeId} {sz : Nat} {v : Value} {xs : List α} {cells : List (List Value)} (h : OwnElsAt lo A base e sz w v xs cells) (hb : Below w.heap.size w w') : OwnElsAt lo A base e sz w' v xs cells := by
  obtain ⟨ho, hlen, hsz, hA⟩ := h
  refine ⟨⟨ho.1, ?_⟩, hlen, hsz, fun i cs x hi hx => A.mono (A.keep (hA i cs x hi hx) fun b h => hb.block b h.2.1) fun b h => ⟨h.1, Nat.lt_of_lt_of_le h.2.1 hb.size, h.2.2⟩⟩
  rcases ho.2 with h0 | ⟨g, cap, cur, h1, h2, h3, h4⟩
  · exact .inl h0
  · exact .inr ⟨g, cap, cur, h1, h2, by rw [hb.block g (Array.getElem?_eq_some_iff.1 h3).1]; exact h3, h4⟩

theorem own_empty {base : Nat} {e : TypeId} {size : Nat} (W : World) (hb : base ≤ W.heap.size) {g : Nat} (hg : g = W.heap.size) : (W.alloc (.cells #[] e)).ownsRow base e size (.slice (some ⟨g, 0, none⟩) 0 0) 0 [] := by
  subst hg
  exact ⟨by simp, .inr ⟨_, 0, #[], rfl, hb, (MapKept.heap_alloc W _).1, Nat.le_refl _, Nat.zero_le _, by simp, by simp⟩⟩
theorem own_form {base : Nat} {e : TypeId} {size : Nat} {v : Value} {n : Nat} {xs : List Value} (h : w.ownsRow base e size v n xs) : ∃ a c, v = .slice a n c := by
  rcases h.2 with ⟨rfl, rfl⟩ | ⟨g, cap, cur, rfl, _⟩
  · exact ⟨_, _, rfl⟩
  · exact ⟨_, _, rfl⟩
theorem own_at {base : Nat} {e : TypeId} {size : Nat} {v : Value} {n : Nat} {xs : List Value} (h : w.ownsRow base e size v (n + 1) xs) : ∃ g c, v = .slice (some ⟨g, 0, none⟩) (n + 1) c := by
  rcases h.2 with ⟨_, h0⟩ | ⟨g, cap, cur, rfl, _⟩
  · cases h0
  · exact ⟨_, _, rfl⟩
theorem own_one {base : Nat} {e : TypeId} {v : Value} {A : Rp α} (f : α → Value) {l : List α} {n : Nat} (hf : ∀ (S : Nat → Prop) x, x ∈ l → A.r S w [f x] x) (hn : n = l.length) (h : w.ownsRow base e 1 v n (l.map f)) : (rSl 1 A).r (fun b => base ≤ b ∧ b < w.heap.size) w [v] l := by
  subst hn
  rcases h.2 with ⟨rfl, h0⟩ | ⟨g, cap, cur, rfl, hbg, hg, hn, hc, hcur, hx⟩
  · have : l = [] := List.eq_nil_of_length_eq_zero h0
    subst this
    exact rSl_mk rfl (Nat.le_refl _) (Nat.zero_le _) (.inl rfl)
  · refine rSl_mk rfl hn hc (.inr ⟨g, 0, rfl, ⟨hbg, Blk.lt hg⟩, fun i x hi => ⟨[f x], rfl, fun j v hj => ?_, hf _ x (List.mem_of_getElem? hi)⟩⟩)
    have hj0 : j = 0 := by
      rcases j with _ | j
      · rfl
      · simp at hj
    subst hj0
    simp at hj
    subst hj
    have hi' : i < l.length := (List.getElem?_eq_some_iff.1 hi).1
    rw [Nat.zero_add, Nat.mul_one, Nat.add_zero, Blk.cell hg i]
    have e1 : cur[i]? = (cur.toList.take (l.length * 1))[i]? := by
      rw [List.getElem?_take, if_pos (by omega)]; simp
    rw [e1, hx, List.getElem?_map, hi]; rfl

theorem src_one {S : Nat → Prop} {a : Option Addr} {n c : Nat} {A : Rp α} (f : α → Value) {l : List α} (hf : ∀ (S : Nat → Prop) cs x, A.r S w cs x → cs = [f x]) (h : (rSl 1 A).r S w [.slice a n c] l) : Src w a l.length 1 (l.map f) := by
  refine ⟨by simp, ?_⟩
  rcases Nat.eq_zero_or_pos l.length with h0 | h0
  · exact .inl h0
  · right
    obtain ⟨b, o, e, _⟩ := sl_at h (i := 0) h0
    refine ⟨b, o, e, fun j u hu => ?_⟩
    have hj : j < l.length := by
      have := (List.getElem?_eq_some_iff.1 hu).1
      simpa using this
    obtain ⟨b', o', e', _, cs, _, hc, hA⟩ := sl_at h hj
    rw [e] at e'
    simp at e'
    obtain ⟨rfl, rfl⟩ := e'
    have hcs := hf _ _ _ hA
    subst hcs
    have := hc 0 _ rfl
    rw [Nat.mul_one, Nat.add_zero] at this
    simp only [List.getElem?_map, List.getElem?_eq_getElem hj, Option.map_some, Option.some.injEq] at hu
    rw [← hu]; exact this
def u64Cells (l : List Int) : List Value := l.map fun n => .int .u64 n
theorem u64Cells_one (l : List Int) : ∀ u ∈ u64Cells l, u.oneCell' = true := by
  intro u hu
  obtain ⟨b, _, rfl⟩ := List.mem_map.1 hu
  rfl
theorem src_u64s {S : Nat → Prop} {a : Option Addr} {n c : Nat} {l : List Int} (h : rU64s.r S w [.slice a n c] l) : Src w a l.length 1 (u64Cells l) := src_one (A := rInt .u64) (fun n => .int .u64 n) (fun _ _ _ h => h.1) h
theorem own_ints64 {base : Nat} {e : TypeId} {v : Value} {l : List Int} {n : Nat} (hw : ∀ x ∈ l, 0 ≤ x ∧ x ≤ 18446744073709551615) (hn : n = l.length) (h : w.ownsRow base e 1 v n (u64Cells l)) : rU64s.r (fun b => base ≤ b ∧ b < w.heap.size) w [v] l :=
  own_one _ (fun _ x hx => ⟨rfl, u64_wf (hw x hx)⟩) hn h
theorem own_bytes2 {base : Nat} {e : TypeId} {v : Value} {l : List UInt8} {n : Nat} (hn : n = l.length) (h : w.ownsRow base e 1 v n (byteCells l)) : rBytes.r (fun b => base ≤ b ∧ b < w.heap.size) w [v] l :=
  own_one _ (fun _ x _ => rfl) hn h

theorem own_below {base : Nat} {e : TypeId} {size : Nat} {v : Value} {n : Nat} {xs : List Value} (h : w.ownsRow base e size v n xs) (hb : Below w.heap.size w w') : w'.ownsRow base e size v n xs := by
  refine ⟨h.1, ?_⟩
  rcases h.2 with h0 | ⟨g, cap, cur, h1, h2, h3, h4⟩
  · exact .inl h0
  · exact .inr ⟨g, cap, cur, h1, h2, by rw [hb.block g (Array.getElem?_eq_some_iff.1 h3).1]; exact h3, h4⟩

theorem step_append_src {P : Program} {ops : Array Oper} {o : Oper} {a : Act} {K : Act → World → Prop} {Q : Exit → Act → World → Prop} {E : Prop} (hgd : o.guard = none) (s x : Operand) (t : TypeId)
    (ho : o.op = .call { callee := .builtin .append, args := #[s, x], argTypes := #[t, t] })
    (base : Nat) (e : TypeId) (i : TypeInfo) (z : Value) (size bytes : Nat) (ht : P.underlying t = some (.slice e)) (hi : P.info? e = some i) (hz : i.zero = some z)
    (hsize : i.size = size) (hby : i.bytes = bytes) (hzs : z.cells.size = size) (hsz : 0 < size)
    (v : Value) (n : Nat) (xs : List Value) (hs : a.eval s = v) (hown : w.ownsRow base e size v n xs)
    (A : Option Addr) (m c : Nat) (news : List Value) (hx : a.eval x = .slice A m c) (hsrc : Src w A m size news) (h1 : ∀ u ∈ news, u.oneCell' = true)
    (h63 : n + m ≤ maxLen) (hbytes : (n + m) * bytes ≤ 140737488355328) (hbase : base ≤ w.heap.size)
    (h : ∀ a' c' w', w'.ownsRow base e size (.slice a' (n + m) c') (n + m) (xs ++ news) → w.grownBy w' v.ownBlock → ((Value.slice a' (n + m) c').ownBlock = v.ownBlock ∨ (Value.slice a' (n + m) c').ownBlock = some w.heap.size) → K (a.put o.dst (.slice a' (n + m) c')) w') :
    if Region.wanted o (yielded ops a.tmps) = true then Oper.wp P o a w K Q else E := by
  have hw : Region.wanted o (yielded ops a.tmps) = true := by simp [Region.wanted, hgd]
  rw [if_pos hw]
  obtain ⟨v', w', hrun, h2, h3, h4⟩ := run_append_src (P := P) base t o.type e i z size bytes ht hi hz hsize hby hzs hsz v n xs hown A m c news hsrc h1 h63 hbytes hbase
  obtain ⟨a', c', rfl⟩ := own_form h2
  unfold Oper.wp execOp
  simp only [ho, resolve, invoke, builtin, Sem.run_bind, Sem.run_pure, Result.andThen_ok, List.map_toArray, List.map_cons, List.map_nil, hs, hx, hrun]
  exact h a' c' w' h2 h3 h4
end
end Go.Bs
namespace Go.Bs
open Go.RowKit
set_option linter.unusedVariables false
set_option linter.unusedSimpArgs false
section
variable {w w' : World} {α : Type}

theorem flatten_len (sz : Nat) : ∀ (l : List (List Value)), (∀ c ∈ l, c.length = sz) → l.flatten.length = l.length * sz
  | [], _ => by simp
  | a :: l, h => by
    rw [List.flatten_cons, List.length_append, h a (by simp), flatten_len sz l fun c hc => h c (by simp [hc]), List.length_cons, Nat.succ_mul]
    omega

/-- As OwnElsAt, each element reaching into blocks of F alone. -/
def OwnElsF (F : Nat → Prop) (A : Rp α) (base : Nat) (e : TypeId) (sz : Nat) (w : World) (v : Value) (xs : List α) (cells : List (List Value)) : Prop :=
  w.ownsRow base e sz v xs.length cells.flatten ∧ cells.length = xs.length ∧ (∀ c ∈ cells, c.length = sz) ∧
    ∀ (i : Nat) cs x, cells[i]? = some cs → xs[i]? = some x → A.r (fun b => F b ∧ v.ownBlock ≠ some b) w cs x

theorem OwnElsF.of {lo : Nat} {A : Rp α} {base : Nat} {e : TypeId} {sz : Nat} {v : Value} {xs : List α} {cells : List (List Value)} (h : OwnElsAt lo A base e sz w v xs cells) : OwnElsF (fun b => lo ≤ b ∧ b < w.heap.size) A base e sz w v xs cells :=
  ⟨h.1, h.2.1, h.2.2.1, fun i cs x hi hx => A.mono (h.2.2.2 i cs x hi hx) fun b hb => ⟨⟨hb.1, hb.2.1⟩, hb.2.2⟩⟩
theorem OwnElsF.to {F : Nat → Prop} {lo : Nat} {A : Rp α} {base : Nat} {e : TypeId} {sz : Nat} {v : Value} {xs : List α} {cells : List (List Value)} (h : OwnElsF F A base e sz w v xs cells) (hF : ∀ b, F b → lo ≤ b ∧ b < w.heap.size) : OwnElsAt lo A base e sz w v xs cells :=
  ⟨h.1, h.2.1, h.2.2.1, fun i cs x hi hx => A.mono (h.2.2.2 i cs x hi hx) fun b hb => ⟨(hF b hb.1).1, (hF b hb.1).2, hb.2⟩⟩
theorem OwnElsF.keep {F : Nat → Prop} {A : Rp α} {base : Nat} {e : TypeId} {sz : Nat} {v : Value} {xs : List α} {cells : List (List Value)} (h : OwnElsF F A base e sz w v xs cells) (hF : ∀ b, F b → w'.heap[b]? = w.heap[b]?) (hv : ∀ g, v.ownBlock = some g → w'.heap[g]? = w.heap[g]?) : OwnElsF F A base e sz w' v xs cells := by
  obtain ⟨ho, hlen, hsz, hA⟩ := h
  refine ⟨⟨ho.1, ?_⟩, hlen, hsz, fun i cs x hi hx => A.keep (hA i cs x hi hx) fun b hb => hF b hb.1⟩
  rcases ho.2 with h0 | ⟨g, cap, cur, h1, h2, h3, h4⟩
  · exact .inl h0
  · exact .inr ⟨g, cap, cur, h1, h2, by rw [hv g (by rw [h1]; rfl)]; exact h3, h4⟩
theorem OwnElsF.mono {F F' : Nat → Prop} {A : Rp α} {base : Nat} {e : TypeId} {sz : Nat} {v : Value} {xs : List α} {cells : List (List Value)} (h : OwnElsF F A base e sz w v xs cells) (hF : ∀ b, F b → F' b) : OwnElsF F' A base e sz w v xs cells :=
  ⟨h.1, h.2.1, h.2.2.1, fun i cs x hi hx => A.mono (h.2.2.2 i cs x hi hx) fun b hb => ⟨hF b hb.1, hb.2⟩⟩

theorem OwnElsF.nil {F : Nat → Prop} {A : Rp α} {base : Nat} {e : TypeId} {sz : Nat} : OwnElsF F A base e sz w (.slice none 0 0) [] [] :=
  ⟨⟨by simp, .inl ⟨rfl, rfl⟩⟩, rfl, (by simp), fun i cs x h => by simp at h⟩
theorem OwnElsF.push {F : Nat → Prop} {A : Rp α} {base : Nat} {e : TypeId} {sz : Nat} {v v' : Value} {xs : List α} {news : List Value} {x : α} {cells : List (List Value)} (h : OwnElsF F A base e sz w v xs cells) (hF : ∀ b, F b → b < w.heap.size)
    (hn : news.length = sz) (hx : A.r (fun b => F b ∧ v.ownBlock ≠ some b) w news x)
    (hown : w'.ownsRow base e sz v' (xs.length + 1) (cells.flatten ++ news)) (hg : w.grownBy w' v.ownBlock) (hat : v'.ownBlock = v.ownBlock ∨ v'.ownBlock = some w.heap.size) : OwnElsF F A base e sz w' v' (xs ++ [x]) (cells ++ [news]) := by
  obtain ⟨ho, hlen, hsz, hA⟩ := h
  have lift : ∀ cs y, A.r (fun b => F b ∧ v.ownBlock ≠ some b) w cs y → A.r (fun b => F b ∧ v'.ownBlock ≠ some b) w' cs y := fun cs y hr =>
    A.mono (A.keep hr fun b hb => hg.block b (hF b hb.1) (fun e => hb.2 e.symm)) fun b hb => ⟨hb.1, fun e => by
      rcases hat with h | h
      · exact hb.2 (h ▸ e)
      · rw [h] at e; have := Option.some.inj e; have := hF b hb.1; omega⟩
  refine ⟨?_, by simp [hlen], ?_, ?_⟩
  · rw [List.flatten_append, List.length_append]
    simpa using hown
  · intro c hc
    rcases List.mem_append.1 hc with h | h
    · exact hsz c h
    · simp at h; subst h; exact hn
  · intro i cs y hi hy
    by_cases hlt : i < xs.length
    · rw [List.getElem?_append_left (by omega)] at hi
      rw [List.getElem?_append_left hlt] at hy
      exact lift _ _ (hA i cs y hi hy)
    · have hii : i = xs.length := by
        have := (List.getElem?_eq_some_iff.1 hy).1
        simp at this
        omega
      subst hii
      rw [List.getElem?_append_right (by omega)] at hi
      rw [List.getElem?_append_right (Nat.le_refl _)] at hy
      simp [hlen] at hi
      simp at hy
      subst hi hy
      exact lift _ _ hx
/-- What it stands for. -/
theorem OwnElsF.slice {F : Nat → Prop} {A : Rp α} {base : Nat} {e : TypeId} {sz : Nat} {v : Value} {xs : List α} {cells : List (List Value)} (h : OwnElsF F A base e sz w v xs cells) : (rSl sz A).r (fun b => F b ∨ v.ownBlock = some b) w [v] xs := by
  obtain ⟨hown, hlen, hsz, hA⟩ := h
  rcases hown.2 with ⟨rfl, h0⟩ | ⟨g, cap, cur, rfl, hbg, hg, hn, hc, hcur, hx⟩
  · have : xs = [] := List.eq_nil_of_length_eq_zero h0
    subst this
    exact rSl_mk rfl (Nat.le_refl _) (Nat.zero_le _) (.inl rfl)
  · refine rSl_mk rfl hn hc (.inr ⟨g, 0, rfl, .inr rfl, fun i x hi => ?_⟩)
    have hi' : i < xs.length := (List.getElem?_eq_some_iff.1 hi).1
    have hic : i < cells.length := by omega
    have hcs : cells[i]? = some cells[i] := List.getElem?_eq_getElem hic
    refine ⟨cells[i], hsz _ (List.getElem_mem hic), fun j v hj => ?_, A.mono (hA i _ x hcs hi) fun b h => .inl h.1⟩
    have hj' : j < sz := by have := (List.getElem?_eq_some_iff.1 hj).1; rw [hsz _ (List.getElem_mem hic)] at this; exact this
    have hf := flatten_at sz cells hsz i j _ v hcs hj
    rw [Nat.zero_add, Blk.cell hg (i * sz + j)]
    have hb : i * sz + j < xs.length * sz := by
      have := Nat.mul_le_mul_right sz (show i + 1 ≤ xs.length from hi')
      rw [Nat.succ_mul] at this
      omega
    have e1 : cur[i * sz + j]? = (cur.toList.take (xs.length * sz))[i * sz + j]? := by
      rw [List.getElem?_take, if_pos hb]; simp
    rw [e1, hx]; exact hf

/-- The last element of an own slice is written anew. -/
theorem OwnElsF.setLast {F : Nat → Prop} {A : Rp α} {base : Nat} {e : TypeId} {sz : Nat} {g n c : Nat} {xs : List α} {x x' : α} {cells : List (List Value)} {cs : List Value} {j : Nat} {u : Value}
    (h : OwnElsF F A base e sz w (.slice (some ⟨g, 0, none⟩) n c) (xs ++ [x]) (cells ++ [cs])) (hl : cells.length = xs.length) (hj : j < sz)
    (hx : A.r (fun b => F b ∧ g ≠ b) w (cs.set j u) x') :
    OwnElsF F A base e sz (w.setCell ⟨g, xs.length * sz + j, none⟩ u) (.slice (some ⟨g, 0, none⟩) n c) (xs ++ [x']) (cells ++ [cs.set j u]) := by
  obtain ⟨ho, hlen, hsz, hA⟩ := h
  have hcs : cs.length = sz := hsz cs (by simp)
  have hsz2 : ∀ c' ∈ cells ++ [cs.set j u], c'.length = sz := by
    intro c' hc'
    rcases List.mem_append.1 hc' with h | h
    · exact hsz c' (by simp [h])
    · simp at h; subst h; simpa using hcs
  refine ⟨⟨by rw [flatten_len sz _ hsz2]; simp [hl], ?_⟩, by simp [hl], hsz2, ?_⟩
  · rcases ho.2 with ⟨h0, _⟩ | ⟨g', cap, cur, h1, h2, h3, h4, h5, h6, h7⟩
    · cases h0
    · simp at h1
      obtain ⟨rfl, rfl, rfl⟩ := h1
      refine .inr ⟨g, c, cur.setIfInBounds (xs.length * sz + j) u, by simp, h2, ?_, by simpa using h4, h5, by simpa using h6, ?_⟩
      · exact Blk.set h3 _ _
      · have hfl : cells.flatten.length = xs.length * sz := by rw [flatten_len sz cells fun c hc => hsz c (by simp [hc]), hl]
        have e2 : (cells ++ [cs.set j u]).flatten = (cells ++ [cs]).flatten.set (xs.length * sz + j) u := by
          simp only [List.flatten_append, List.flatten_cons, List.flatten_nil, List.append_nil]
          rw [List.set_append, if_neg (by omega), hfl]
          congr 2
          omega
        have e3 : (xs ++ [x']).length = (xs ++ [x]).length := by simp
        rw [e2, ← h7, e3]
        simp only [Array.toList_setIfInBounds]
        rw [List.take_set]
  · intro i cs' y hi hy
    have keep : ∀ b, b ≠ g → (w.setCell ⟨g, xs.length * sz + j, none⟩ u).heap[b]? = w.heap[b]? := fun b hb => Below.heap_setCell _ _ _ _ hb
    have hsame : (w.setCell ⟨g, xs.length * sz + j, none⟩ u).heap.size = w.heap.size := by simp [World.setCell]
    by_cases hlt : i < xs.length
    · rw [List.getElem?_append_left (by omega)] at hi
      rw [List.getElem?_append_left hlt] at hy
      have := hA i cs' y (by rw [List.getElem?_append_left (by omega)]; exact hi) (by rw [List.getElem?_append_left hlt]; exact hy)
      exact A.keep this fun b hb => keep b fun e => hb.2 (by rw [e]; rfl)
    · have hii : i = xs.length := by
        have := (List.getElem?_eq_some_iff.1 hy).1
        simp at this
        omega
      subst hii
      rw [List.getElem?_append_right (by omega)] at hi
      rw [List.getElem?_append_right (Nat.le_refl _)] at hy
      simp [hl] at hi
      simp at hy
      subst hi hy
      exact A.mono (A.keep hx fun b hb => keep b fun e => hb.2 e.symm) fun b hb => ⟨hb.1, fun e => hb.2 (by simpa [Value.ownBlock] using e)⟩

/-- A batch, or one whose entries are still being built. -/
def rBV : Rp (Batch ⊕ (Int × Int × Value)) :=
  ⟨fun S w cs x => match x with | .inl b => rBatch.r S w cs b | .inr y => cs = [.int .u64 y.1, .int .u64 y.2.1, y.2.2],
   fun {S w w' cs x} h hk => by cases x with | inl b => exact rBatch.keep h hk | inr y => exact h,
   fun {S S' w cs x} h hk => by cases x with | inl b => exact rBatch.mono h hk | inr y => exact h⟩

/-- An own slice of batches, finished but for the last one, whose entries are an own slice that lies behind all else. -/
structure Bld2 (lo : Nat) (TB TE : TypeId) (w : World) (g c : Nat) (cells : List (List Value)) (s : Nat) (bs0 : List Batch) (e b : Int) (es : List Entry) (vl : Value) : Prop where
  own : OwnElsF (fun x => lo ≤ x ∧ x < s) rBV lo TB 3 w (.slice (some ⟨g, 0, none⟩) (bs0.length + 1) c) (bs0.map .inl ++ [.inr (e, b, vl)]) (cells ++ [[.int .u64 e, .int .u64 b, vl]])
  len : cells.length = bs0.length
  lt : g < s
  le : s ≤ w.heap.size
  last : OwnEls s rEntry s TE 2 w vl es
  he : 0 ≤ e ∧ e ≤ 18446744073709551615
  hb : 0 ≤ b ∧ b ≤ 18446744073709551615

def Bld (lo : Nat) (TB TE : TypeId) (w : World) (v : Value) (bs : List Batch) : Prop :=
  (bs = [] ∧ v = .slice none 0 0) ∨ ∃ g c cells s bs0 e b es vl, v = .slice (some ⟨g, 0, none⟩) (bs0.length + 1) c ∧ bs = bs0 ++ [⟨e, b, es⟩] ∧ Bld2 lo TB TE w g c cells s bs0 e b es vl

theorem OwnElsF.inl {F : Nat → Prop} {base : Nat} {e : TypeId} {sz : Nat} {v : Value} {xs : List Batch} {cells : List (List Value)} (h : OwnElsF F rBatch base e sz w v xs cells) : OwnElsF F rBV base e sz w v (xs.map .inl) cells := by
  obtain ⟨ho, hlen, hsz, hA⟩ := h
  refine ⟨by simpa using ho, by simpa using hlen, hsz, fun i cs x hi hx => ?_⟩
  rw [List.getElem?_map] at hx
  cases hxi : xs[i]? with
  | none => rw [hxi] at hx; cases hx
  | some y => rw [hxi] at hx; cases hx; exact hA i cs y hi hxi

theorem Bld2.close {lo : Nat} {TB TE : TypeId} {g c : Nat} {cells : List (List Value)} {s : Nat} {bs0 : List Batch} {e b : Int} {es : List Entry} {vl : Value} (h : Bld2 lo TB TE w g c cells s bs0 e b es vl) (hlo : lo ≤ s) :
    OwnEls lo rBatch lo TB 3 w (.slice (some ⟨g, 0, none⟩) (bs0.length + 1) c) (bs0 ++ [⟨e, b, es⟩]) := by
  obtain ⟨⟨ho, hlen, hsz, hA⟩, h1, h2, h3, h4, h5, h6⟩ := h
  refine ⟨cells ++ [[.int .u64 e, .int .u64 b, vl]], by simpa using ho, by simpa using hlen, hsz, fun i cs x hi hx => ?_⟩
  by_cases hlt : i < bs0.length
  · rw [List.getElem?_append_left hlt] at hx
    have := hA i cs (.inl x) hi (by rw [List.getElem?_append_left (by simpa using hlt), List.getElem?_map, hx]; rfl)
    exact rBatch.mono this fun b hb => ⟨hb.1.1, Nat.lt_of_lt_of_le hb.1.2 h3, hb.2⟩
  · have hii : i = bs0.length := by
      have := (List.getElem?_eq_some_iff.1 hx).1
      simp at this
      omega
    subst hii
    rw [List.getElem?_append_right (by omega)] at hi
    rw [List.getElem?_append_right (Nat.le_refl _)] at hx
    simp [h1] at hi
    simp at hx
    subst hi hx
    have hv := OwnEls.slice (Nat.le_refl _) h4
    exact batch_mk (x := ⟨e, b, es⟩) h5 h6 (rEntries.mono hv fun b hb => ⟨by omega, hb.2, by simp [Value.ownBlock]; omega⟩)

theorem Bld.close {lo : Nat} {TB TE : TypeId} {v : Value} {bs : List Batch} (h : Bld lo TB TE w v bs) : OwnEls lo rBatch lo TB 3 w v bs := by
  rcases h with ⟨rfl, rfl⟩ | ⟨g, c, cells, s, bs0, e, b, es, vl, rfl, rfl, h⟩
  · exact OwnEls.nil
  · refine h.close ?_
    obtain ⟨⟨ho, _⟩, _, h2, _⟩ := h
    rcases ho.2 with ⟨h0, _⟩ | ⟨g', cap, cur, h1, hb, _⟩
    · cases h0
    · simp at h1
      omega

/-- A batch without entries is put behind all others. -/
theorem Bld2.start {lo : Nat} {TB TE : TypeId} {g c : Nat} {v : Value} {bs : List Batch} {e b : Int} {cells : List (List Value)} (h : OwnElsAt lo rBatch lo TB 3 w v bs cells) (he : 0 ≤ e ∧ e ≤ 18446744073709551615) (hb : 0 ≤ b ∧ b ≤ 18446744073709551615)
    (hown : w'.ownsRow lo TB 3 (.slice (some ⟨g, 0, none⟩) (bs.length + 1) c) (bs.length + 1) (cells.flatten ++ [.int .u64 e, .int .u64 b, .slice none 0 0])) (hg : w.grownBy w' v.ownBlock)
    (hat : (Value.slice (some ⟨g, 0, none⟩) (bs.length + 1) c).ownBlock = v.ownBlock ∨ (Value.slice (some ⟨g, 0, none⟩) (bs.length + 1) c).ownBlock = some w.heap.size) :
    Bld2 lo TB TE w' g c cells w'.heap.size bs e b [] (.slice none 0 0) := by
  have h' := (OwnElsF.of h).inl
  have h2 : OwnElsAt lo rBV lo TB 3 w v (bs.map .inl) cells := h'.to fun b hb => hb
  have h3 := OwnElsAt.push (v' := .slice (some ⟨g, 0, none⟩) (bs.length + 1) c) (x := (.inr (e, b, .slice none 0 0) : Batch ⊕ (Int × Int × Value))) h2 rfl rfl (by simpa using hown) hg hat hg.size
  have hlt : g < w'.heap.size := by
    rcases hown.2 with ⟨h0, _⟩ | ⟨g', cap, cur, h1, hb, hk, _⟩
    · cases h0
    · simp at h1
      rw [h1.1]
      exact (Array.getElem?_eq_some_iff.1 hk).1
  exact ⟨OwnElsF.of h3, by simpa using h.2.1, hlt, Nat.le_refl _, OwnEls.nil, he, hb⟩

/-- The last one's entries have grown by one. -/
theorem Bld2.grow {lo : Nat} {TB TE : TypeId} {g c : Nat} {cells : List (List Value)} {s : Nat} {bs0 : List Batch} {e b : Int} {es es' : List Entry} {vl vl' : Value} (h : Bld2 lo TB TE w g c cells s bs0 e b es vl)
    (hk : ∀ b, b < s → w'.heap[b]? = w.heap[b]?) (hs : w.heap.size ≤ w'.heap.size) (hl : OwnEls s rEntry s TE 2 w' vl' es') :
    Bld2 lo TB TE (w'.setCell ⟨g, bs0.length * 3 + 2, none⟩ vl') g c cells s bs0 e b es' vl' := by
  obtain ⟨ho, h1, h2, h3, h4, h5, h6⟩ := h
  have hsame : (w'.setCell ⟨g, bs0.length * 3 + 2, none⟩ vl').heap.size = w'.heap.size := by simp [World.setCell]
  have ho' := ho.keep (w' := w') (fun b hb => hk b hb.2) (fun g' hg' => hk g' (by simp [Value.ownBlock] at hg'; omega))
  have h7 := OwnElsF.setLast (x' := (.inr (e, b, vl') : Batch ⊕ (Int × Int × Value))) (j := 2) (u := vl') ho' (by simpa using h1) (by omega) (show _ = _ from rfl)
  refine ⟨by simpa using h7, h1, h2, by rw [hsame]; omega, ?_, h5, h6⟩
  obtain ⟨cs, hc⟩ := hl
  have h8 := (OwnElsF.of hc).keep (w' := w'.setCell ⟨g, bs0.length * 3 + 2, none⟩ vl') (fun b hb => Below.heap_setCell _ _ _ _ (by dsimp only; omega)) (fun g' hg' => Below.heap_setCell _ _ _ _ (by
    have := (hc.1.lt g' hg').1
    dsimp only; omega))
  exact ⟨cs, h8.to fun b hb => by rw [hsame]; exact hb⟩

/-- A world in which no block but one ahead of all has turned keeps it. -/
theorem Bld2.keep {lo : Nat} {TB TE : TypeId} {g c : Nat} {cells : List (List Value)} {s : Nat} {bs0 : List Batch} {e b : Int} {es : List Entry} {vl : Value} (h : Bld2 lo TB TE w g c cells s bs0 e b es vl) (p : Nat) (hp : p < lo)
    (hk : ∀ b, b < w.heap.size → b ≠ p → w'.heap[b]? = w.heap[b]?) (hs : w.heap.size ≤ w'.heap.size) : Bld2 lo TB TE w' g c cells s bs0 e b es vl := by
  obtain ⟨ho, h1, h2, h3, h4, h5, h6⟩ := h
  have hlo : lo ≤ g := by
    rcases ho.1.2 with ⟨h0, _⟩ | ⟨g', cap, cur, hv, hb, _⟩
    · cases h0
    · simp at hv
      omega
  refine ⟨ho.keep (fun b hb => hk b (by omega) (by omega)) (fun g' hg' => hk g' (by simp [Value.ownBlock] at hg'; omega) (by simp [Value.ownBlock] at hg'; omega)), h1, h2, by omega, ?_, h5, h6⟩
  obtain ⟨cs, hc⟩ := h4
  have h8 := (OwnElsF.of hc).keep (w' := w') (fun b hb => hk b hb.2 (by omega)) (fun g' hg' => hk g' (hc.1.lt g' hg').2 (by have := (hc.1.lt g' hg').1; omega))
  exact ⟨cs, h8.to fun b hb => ⟨hb.1, by omega⟩⟩

/-- The place where the last one's entries are noted. -/
theorem Bld2.place {lo : Nat} {TB TE : TypeId} {g c : Nat} {cells : List (List Value)} {s : Nat} {bs0 : List Batch} {e b : Int} {es : List Entry} {vl : Value} (h : Bld2 lo TB TE w g c cells s bs0 e b es vl) :
    w.cell? ⟨g, bs0.length * 3 + 2, none⟩ = some vl ∧ w.frozen? ⟨g, bs0.length * 3 + 2, none⟩ = false := by
  obtain ⟨⟨ho, hlen, hsz, hA⟩, h1, _⟩ := h
  rcases ho.2 with ⟨h0, _⟩ | ⟨g', cap, cur, hv, hbg, hg, hn, hc, hcur, hx⟩
  · cases h0
  · simp at hv
    obtain ⟨rfl, rfl⟩ := hv
    refine ⟨?_, Blk.free hg _⟩
    rw [Blk.cell hg]
    have hf := flatten_at 3 (cells ++ [[.int .u64 e, .int .u64 b, vl]]) hsz bs0.length 2 [.int .u64 e, .int .u64 b, vl] vl (by rw [List.getElem?_append_right (by omega), h1]; simp) rfl
    rw [← hx, List.getElem?_take] at hf
    split at hf
    · simpa using hf
    · cases hf
end
end Go.Bs
namespace Go.Proofs.YtlbffbkbkajciaaGreat
open Go.RowKit Go.Bs
set_option linter.unusedVariables false
set_option linter.unusedSimpArgs false

theorem c_u64 : Tryz.prog.cellsOf 22 = 1 := by kernel_rfl
theorem c_bytes : Tryz.prog.cellsOf 25 = 1 := by kernel_rfl
theorem c_u64s : Tryz.prog.cellsOf 23 = 1 := by kernel_rfl
theorem c_links : Tryz.prog.cellsOf 24 = 1 := by kernel_rfl
theorem o_u64 : Opens Tryz.prog 22 (rInt .u64) := opens_int Tryz.underlying22
theorem o_bytes : Opens Tryz.prog 25 rBytes := opens_slice (sz := 1) Tryz.underlying25 (by kernel_rfl) (by decide) (opens_byte Tryz.underlying5)
theorem o_u64s : Opens Tryz.prog 23 rU64s := opens_slice (sz := 1) Tryz.underlying23 (by kernel_rfl) (by decide) o_u64

theorem field_at {H : Type} {enc : TypeId × Value → H} {P : Program} {w : World} {cs : List Value} {n : Nat} {fs : Array Field} (h : ∀ (i : Nat) (f : Field), fs[i]? = some f → ∃ y, DataW.trod enc P w 0 (fun _ => true) true n f.type ((cs.drop f.offset).take (P.cellsOf f.type)) = some y)
    {α : Type} {A : Rp α} {t : TypeId} (hA : Opens P t A) (i : Nat) (f : Field) (o : Nat) (hf : fs[i]? = some f) (ht : f.type = t) (ho : f.offset = o) (hs : P.cellsOf t = 1) : ∃ x, A.r (· < w.heap.size) w ((cs.drop o).take 1) x := by
  obtain ⟨y, hy⟩ := h i f hf
  rw [ht, ho, hs] at hy
  exact hA enc w n _ _ hy

theorem o_link : Opens Tryz.prog 151 rLink := fun enc w fuel cs x h => by
  obtain ⟨hl, n, hf⟩ := trod_fields Tryz.underlying151 h
  have hl2 : cs.length = 2 := hl.trans (by kernel_rfl)
  obtain ⟨x0, r0⟩ := field_at hf o_u64 0 _ 0 rfl rfl rfl c_u64
  obtain ⟨x1, r1⟩ := field_at hf o_u64s 1 _ 1 rfl rfl rfl c_u64s
  exact ⟨⟨x0, x1⟩, by have h := pair_step (o := 0) (s := 1) (o' := 1) rfl r0 (last_step (s := 1) hl2 r1); rw [List.drop_zero] at h; exact h⟩
theorem o_links : Opens Tryz.prog 24 rLinks := opens_slice (sz := 2) Tryz.underlying24 (by kernel_rfl) (by decide) o_link
end Go.Proofs.YtlbffbkbkajciaaGreat
namespace Go.Proofs.YtlbffbkbkajciaaGreat
open Go.RowKit Go.Bs
set_option linter.unusedVariables false
set_option linter.unusedSimpArgs false

def risesAt (l : List Int) (k : Nat) : Bool := if k = 0 then risesB l else risesB (l.drop (k - 1))
theorem risesAt_one (l : List Int) : risesAt l 1 = risesAt l 0 := by simp [risesAt]
theorem risesAt_step (l : List Int) (m : Nat) (h : m + 1 < l.length) : risesAt l (m + 1) = (decide (l[m] < l[m + 1]) && risesAt l (m + 2)) := by
  have e1 : l.drop m = l[m] :: l[m + 1] :: l.drop (m + 2) := by
    rw [List.drop_eq_getElem_cons (show m < l.length by omega), List.drop_eq_getElem_cons h]
  have e2 : l.drop (m + 1) = l[m + 1] :: l.drop (m + 2) := List.drop_eq_getElem_cons h
  show risesB (l.drop m) = (_ && risesB (l.drop (m + 1)))
  rw [e1, e2]; rfl
theorem risesAt_end (l : List Int) : risesAt l l.length = true := by
  unfold risesAt
  split
  · rename_i h; rw [List.eq_nil_of_length_eq_zero h]; rfl
  · rename_i h
    have e : l.drop (l.length - 1) = [l[l.length - 1]] := by
      rw [List.drop_eq_getElem_cons (show l.length - 1 < l.length by omega), List.drop_of_length_le (by omega)]
    rw [e]; rfl

set_option maxHeartbeats 400000 in
theorem link_stream (s : Int) (v : Value) (h1 : v.oneCell' = true) (w : World) : Calls Tryz.prog 157 #[.agg #[.int .u64 s, v]] w fun r w' => r = .returned (.int .u64 s) ∧ Below w.heap.size w w' := by
  go_enter Tryz.func157, Tryz.ntmps157
  go_wp2
  go_ret
  exact ⟨rfl, by (repeat (first | exact Below.refl _ _ | assumption | (refine below_alloc ?_ _) | (refine Below.setCell ?_ (by first | omega | (simp; done) | (simp; omega)) _) | (refine Below.drew ?_) | (refine below_drewN ?_ _) | (refine below_then (by assumption) ?_)))⟩

set_option maxHeartbeats 1600000 in
theorem link_rises (l : List Link) (a : Option Addr) (n c : Nat) (w : World) (hl : rLinks.r (· < w.heap.size) w [.slice a n c] l) :
    Calls Tryz.prog 156 #[.slice a n c, .func (.func 157) #[] #[]] w fun r w' => r = .returned (.bool (risesB (l.map Link.stream))) ∧ Below w.heap.size w w' := by
  obtain ⟨rfl, hm, _, _⟩ := sl_len hl
  have HL := hid hl; clear hl
  go_enter Tryz.func156, Tryz.ntmps156
  go_wp2
  go_loopw [8] (fun i wr => ∃ k : Nat, k ≤ l.length ∧ i = .int .i64 k ∧ Hid (risesB (l.map Link.stream) = risesAt (l.map Link.stream) k) ∧ Below w.heap.size w wr) (fun i _ => l.length - (intOf i).toNat)
  case atStart => exact ⟨0, Nat.zero_le _, rfl, hid rfl, Below.refl _ _⟩
  case round =>
    obtain ⟨k, hk, rfl, hf, hb⟩ := hrel
    by_cases hlt : k < l.length
    · obtain ⟨b, o, hA, hbb, a1, c1, hc0, hc1, _, _⟩ := link_at HL.out hlt
      have hlt' : (k : Int) < (l.length : Int) := by omega
      rcases k with _ | m
      · have h1 := hid (risesAt_one (l.map Link.stream))
        go_wp2_with fail
        refine wp_region_later (by kernel_rfl) (by kernel_rfl) ?_
        repeat (go_big_quiet_step (fail))
        refine wpQuiet_nil ?_
        rintro W5 ⟨⟨W5', hb5⟩, rfl⟩
        go_wp2
        go_roundw
        case rel => exact ⟨1, by omega, rfl, hid (by rw [hf.out, h1.out]), below_then hb5 hb⟩
        case measure => simp [intOf]; omega
      · obtain ⟨b', o', hA', hbb', a2, c2, hd0, hd1, _, _⟩ := link_at HL.out (show m < l.length by omega)
        have hst := hid (risesAt_step (l.map Link.stream) m (by simpa using hlt))
        subst hA
        obtain ⟨rfl, rfl⟩ : b' = b ∧ o' = o := by simp at hA'; exact ⟨hA'.1.symm, hA'.2.symm⟩
        clear hA'
        have X0 := fun s : Later wr => s.cell ((hb.cell (p := ⟨b', o' + (m + 1) * 2, none⟩) hbb).trans hc0)
        have X1 := fun s : Later wr => s.cell ((hb.cell (p := ⟨b', o' + (m + 1) * 2 + 1, none⟩) hbb).trans hc1)
        have Y0 := fun s : Later wr => s.cell ((hb.cell (p := ⟨b', o' + m * 2, none⟩) hbb).trans hd0)
        have Y1 := fun s : Later wr => s.cell ((hb.cell (p := ⟨b', o' + m * 2 + 1, none⟩) hbb).trans hd1)
        clear hc0 hc1 hd0 hd1
        simp only [List.getElem_map] at hst
        generalize l[m + 1].stream = x at *
        generalize l[m].stream = y at *
        generalize l[m + 1].backs.length = n1 at *
        generalize l[m].backs.length = n2 at *
        rw [show ((m + 1 : Nat) : Int) = (m : Int) + 1 from by omega]
        have k1 : (0 : Int) < (m : Int) + 1 := by omega
        have k2 : (0 : Int) ≤ (m : Int) + 1 - 1 := by omega
        have k3 : (m : Int) + 1 < (l.length : Int) := by omega
        have k4 : (m : Int) < (l.length : Int) := by omega
        by_cases hge : x ≤ y
        · have d1 : decide (x ≤ y) = true := by simpa using hge
          have hff : Hid (risesB (l.map Link.stream) = false) := hid (by rw [hf.out, hst.out]; simp; omega)
          clear hge
          go_wp2_with fail
          refine wp_region_later (by kernel_rfl) (by kernel_rfl) ?_
          repeat (go_big_quiet_step (((go_at_call 157; exact later_of (link_stream _ _ rfl _)))))
          refine wpQuiet_nil ?_
          rintro W5 ⟨⟨W5', hb5⟩, rfl⟩
          go_wp2
          go_ret
          exact ⟨by rw [hff.out]; rfl, below_then hb5 hb⟩
        · have d1 : decide (x ≤ y) = false := by simpa using hge
          have hst' : Hid (risesAt (l.map Link.stream) (m + 1) = risesAt (l.map Link.stream) (m + 2)) := hid (by rw [hst.out, decide_eq_true (by omega)]; rfl)
          clear hge
          go_wp2_with fail
          refine wp_region_later (by kernel_rfl) (by kernel_rfl) ?_
          repeat (go_big_quiet_step (((go_at_call 157; exact later_of (link_stream _ _ rfl _)))))
          refine wpQuiet_nil ?_
          rintro W5 ⟨⟨W5', hb5⟩, rfl⟩
          go_wp2
          go_roundw
          case rel => exact ⟨m + 2, by omega, by go_num, hid (by rw [hf.out, hst'.out]), below_then hb5 hb⟩
          case measure => simp [intOf]; omega
    · obtain rfl : k = l.length := by omega
      have hff : Hid (risesB (l.map Link.stream) = true) := hid (by
        have := risesAt_end (l.map Link.stream)
        rw [List.length_map] at this
        rw [hf.out, this])
      go_wp2
      go_ret
      exact ⟨by rw [hff.out]; rfl, hb⟩
end Go.Proofs.YtlbffbkbkajciaaGreat
namespace Go.Proofs.YtlbffbkbkajciaaGreat
open Go.RowKit Go.Bs
set_option linter.unusedVariables false
set_option linter.unusedSimpArgs false

set_option maxHeartbeats 800000 in
theorem link_wrong (pos : Int) (x : Link) (a : Option Addr) (n c : Nat) (blk : Nat) (w : World) (hpos : 0 ≤ pos ∧ pos ≤ 18446744073709551615) (hx : rU64s.r (· < w.heap.size) w [.slice a n c] x.backs) (hlen : x.backs.length ≤ 1000000000000)
    (hc : w.cell? ⟨blk, 0, none⟩ = some (.int .u64 pos)) :
    Calls Tryz.prog 158 #[.agg #[.int .u64 x.stream, .slice a n c], .pointer (some ⟨blk, 0, none⟩)] w fun r w' => r = .returned (.bool (!linkR pos x)) ∧ Below w.heap.size w w' := by
  obtain ⟨rfl, hm, _, _⟩ := sl_len hx
  have hlt := World.block_lt_of_cell? w _ hc
  have X0 := (Later.mk _ ((Below.refl w.heap.size w).alloc (Nat.le_refl _) (.cells #[.int .u64 x.stream, .slice a x.backs.length c] 151))).cell hc
  by_cases h4 : 4 < x.backs.length
  · have hff : linkR pos x = false := by simp [linkR]; omega
    rw [hff]
    clear hff hx hc
    go_enter Tryz.func158, Tryz.ntmps158
    go_wp2
    go_ret
    exact ⟨rfl, by (repeat (first | exact Below.refl _ _ | assumption | (refine below_alloc ?_ _) | (refine Below.setCell ?_ (by first | omega | (simp; done) | (simp; omega)) _) | (refine Below.drew ?_) | (refine below_drewN ?_ _) | (refine below_then (by assumption) ?_)))⟩
  · have hff : linkR pos x = fallsB pos x.backs := by simp only [linkR]; rw [decide_eq_true (by omega)]; rfl
    rw [hff]
    have d4 : decide (4 < (x.backs.length : Int)) = false := by simp; omega
    have HX := hid hx; clear hx hff
    go_enter Tryz.func158, Tryz.ntmps158
    go_wp2_with fail
    refine (delta_falls pos x.backs _ _ _ _ hpos (lift HX.out (by (repeat (first | exact Below.refl _ _ | assumption | (refine below_alloc ?_ _) | (refine Below.setCell ?_ (by first | omega | (simp; done) | (simp; omega)) _) | (refine Below.drew ?_) | (refine below_drewN ?_ _) | (refine below_then (by assumption) ?_))))) hlen).mono ?_
    rintro e w1 ⟨rfl, hb1⟩
    go_wp2
    go_ret
    exact ⟨rfl, by (repeat (first | exact Below.refl _ _ | assumption | (refine below_alloc ?_ _) | (refine Below.setCell ?_ (by first | omega | (simp; done) | (simp; omega)) _) | (refine Below.drew ?_) | (refine below_drewN ?_ _) | (refine below_then (by assumption) ?_)))⟩

theorem takeWhile_step {α : Type} (p : α → Bool) (l : List α) (k : Nat) (h : k < l.length) : (l.drop k).takeWhile p = if p l[k] then l[k] :: (l.drop (k + 1)).takeWhile p else [] := by
  rw [List.drop_eq_getElem_cons h, List.takeWhile_cons]
theorem takeWhile_all {α : Type} (p : α → Bool) (l : List α) : decide ((l.takeWhile p).length = l.length) = l.all p := by
  induction l with
  | nil => rfl
  | cons x l ih =>
    rw [List.takeWhile_cons, List.all_cons]
    cases h : p x
    · simp
    · simp only [if_true, List.length_cons, Nat.add_right_cancel_iff, Bool.true_and]; exact ih

set_option maxHeartbeats 1600000 in
theorem link_place (pos : Int) (l : List Link) (a : Option Addr) (n c : Nat) (blk : Nat) (w : World) (hpos : 0 ≤ pos ∧ pos ≤ 18446744073709551615) (hl : rLinks.r (· < w.heap.size) w [.slice a n c] l) (hbk : ∀ x ∈ l, x.backs.length ≤ 1000000000000)
    (hc : w.cell? ⟨blk, 0, none⟩ = some (.int .u64 pos)) :
    Calls Tryz.prog 160 #[.slice a n c, .func (.func 158) #[] #[.pointer (some ⟨blk, 0, none⟩)]] w fun r w' => r = .returned (.int .i64 ((l.takeWhile (linkR pos)).length : Nat)) ∧ Below w.heap.size w w' := by
  obtain ⟨rfl, hm, _, _⟩ := sl_len hl
  have HL := hid hl; clear hl
  have HB := hid hbk; clear hbk
  have hblk := World.block_lt_of_cell? w _ hc
  have HC := hid hc; clear hc
  go_enter Tryz.func160, Tryz.ntmps160
  go_wp2
  go_loopw [9] (fun i wr => ∃ k : Nat, k ≤ l.length ∧ i = .int .i64 k ∧ Hid ((l.takeWhile (linkR pos)).length = k + ((l.drop k).takeWhile (linkR pos)).length) ∧ Below w.heap.size w wr) (fun i _ => l.length - (intOf i).toNat)
  case atStart => exact ⟨0, Nat.zero_le _, rfl, hid (by simp), Below.refl _ _⟩
  case round =>
    obtain ⟨k, hk, rfl, hf, hb⟩ := hrel
    by_cases hlt : k < l.length
    · obtain ⟨b, o, hA, hbb, a1, c1, hc0, hc1, _, hbs⟩ := link_at HL.out hlt
      subst hA
      have X0 := (hb.cell (p := ⟨b, o + k * 2, none⟩) hbb).trans hc0
      have X1 := (hb.cell (p := ⟨b, o + k * 2 + 1, none⟩) hbb).trans hc1
      clear hc0 hc1
      have hbl := HB.out _ (List.getElem_mem hlt)
      have hst := hid (takeWhile_step (linkR pos) l k hlt)
      have HBS := hid hbs; clear hbs
      generalize hlk : l[k] = x at *
      clear hlk
      have hzz := hb.size
      go_wp2_with fail
      refine (link_wrong pos x _ _ _ blk _ hpos (lift HBS.out (by (repeat (first | exact Below.refl _ _ | assumption | (refine below_alloc ?_ _) | (refine Below.setCell ?_ (by first | omega | (simp; done) | (simp; omega)) _) | (refine Below.drew ?_) | (refine below_drewN ?_ _) | (refine below_then (by assumption) ?_))))) hbl ?_).mono ?_
      · have := (Later.mk wr hb).cell HC.out
        exact (Later.mk _ ((Below.refl wr.heap.size wr).alloc (Nat.le_refl _) _)).cell this
      rintro e w1 ⟨rfl, hb1⟩
      have hb2 : Below w.heap.size w w1 := by (repeat (first | exact Below.refl _ _ | assumption | (refine below_alloc ?_ _) | (refine Below.setCell ?_ (by first | omega | (simp; done) | (simp; omega)) _) | (refine Below.drew ?_) | (refine below_drewN ?_ _) | (refine below_then (by assumption) ?_)))
      cases hr : linkR pos x
      · have hff : Hid ((l.takeWhile (linkR pos)).length = k) := hid (by rw [hf.out, hst.out, hr]; simp)
        clear hr
        go_wp2
        go_ret
        exact ⟨by rw [hff.out]; rfl, hb2⟩
      · have hff : Hid ((l.takeWhile (linkR pos)).length = (k + 1) + ((l.drop (k + 1)).takeWhile (linkR pos)).length) := hid (by rw [hf.out, hst.out, hr]; simp; omega)
        clear hr
        go_wp2
        go_roundw
        case rel => exact ⟨k + 1, by omega, by go_num, hff, hb2⟩
        case measure => simp [intOf]; omega
    · obtain rfl : k = l.length := by omega
      have hff : Hid ((l.takeWhile (linkR pos)).length = l.length) := hid (by rw [hf.out, List.drop_length]; simp)
      go_wp2
      go_ret
      exact ⟨by rw [hff.out]; rfl, hb⟩

set_option maxHeartbeats 800000 in
theorem link_right (pos : Int) (l : List Link) (a : Option Addr) (n c : Nat) (w : World) (hpos : 0 ≤ pos ∧ pos ≤ 18446744073709551615) (hl : rLinks.r (· < w.heap.size) w [.slice a n c] l) (hbk : ∀ x ∈ l, x.backs.length ≤ 1000000000000) :
    Calls Tryz.prog 85 #[.int .u64 pos, .slice a n c] w fun r w' => r = .returned (.bool (linksR pos l)) ∧ Below w.heap.size w w' := by
  obtain ⟨rfl, hm, _, _⟩ := sl_len hl
  have HL := hid hl; clear hl
  have HB := hid hbk; clear hbk
  by_cases h16 : 16 < l.length
  · have hff : Hid (linksR pos l = false) := hid (by simp [linksR]; omega)
    go_enter Tryz.func85, Tryz.ntmps85
    go_wp2
    go_ret
    exact ⟨by rw [hff.out]; rfl, by (repeat (first | exact Below.refl _ _ | assumption | (refine below_alloc ?_ _) | (refine Below.setCell ?_ (by first | omega | (simp; done) | (simp; omega)) _) | (refine Below.drew ?_) | (refine below_drewN ?_ _) | (refine below_then (by assumption) ?_)))⟩
  · have hff : Hid (linksR pos l = (risesB (l.map Link.stream) && l.all (linkR pos))) := hid (by simp only [linksR]; rw [decide_eq_true (by omega)]; rfl)
    have hta := hid (takeWhile_all (linkR pos) l)
    go_enter Tryz.func85, Tryz.ntmps85
    go_wp2_with fail
    refine (link_rises l _ _ _ _ (lift HL.out (by (repeat (first | exact Below.refl _ _ | assumption | (refine below_alloc ?_ _) | (refine Below.setCell ?_ (by first | omega | (simp; done) | (simp; omega)) _) | (refine Below.drew ?_) | (refine below_drewN ?_ _) | (refine below_then (by assumption) ?_)))))).mono ?_
    rintro e w1 ⟨rfl, hb1⟩
    have hb2 : Below w.heap.size w w1 := by (repeat (first | exact Below.refl _ _ | assumption | (refine below_alloc ?_ _) | (refine Below.setCell ?_ (by first | omega | (simp; done) | (simp; omega)) _) | (refine Below.drew ?_) | (refine below_drewN ?_ _) | (refine below_then (by assumption) ?_)))
    cases hr : risesB (l.map Link.stream)
    · have hf2 : Hid (linksR pos l = false) := hid (by rw [hff.out, hr]; rfl)
      clear hr
      go_wp2
      go_ret
      exact ⟨by rw [hf2.out]; rfl, hb2⟩
    · have hf2 : Hid (linksR pos l = l.all (linkR pos)) := hid (by rw [hff.out, hr]; rfl)
      clear hr
      go_wp2_with fail
      refine (link_place pos l _ _ _ w.heap.size _ hpos (lift HL.out hb2) HB.out ?_).mono ?_
      · exact (Later.mk w1 hb1).cell (by go_simp)
      rintro e w3 ⟨rfl, hb3⟩
      have hlt := (List.takeWhile_sublist (l := l) (linkR pos)).length_le
      generalize hg : (l.takeWhile (linkR pos)).length = t at *
      have hg' := hid hg; clear hg
      go_wp2
      go_ret
      refine ⟨?_, by (repeat (first | exact Below.refl _ _ | assumption | (refine below_alloc ?_ _) | (refine Below.setCell ?_ (by first | omega | (simp; done) | (simp; omega)) _) | (refine Below.drew ?_) | (refine below_drewN ?_ _) | (refine below_then (by assumption) ?_)))⟩
      rw [hf2.out, ← hta.out]
      by_cases h : t = l.length
      · subst h; simp
      · have : ¬ ((t : Int) = (l.length : Int)) := by omega
        simp [h, this]
end Go.Proofs.YtlbffbkbkajciaaGreat
namespace Go.Proofs.YtlbffbkbkajciaaGreat
open Go.RowKit Go.Bs
set_option linter.unusedVariables false
set_option linter.unusedSimpArgs false

set_option maxHeartbeats 3200000 in
theorem ref23_right (pos : Int) (l : List Link) (a : Option Addr) (n c : Nat) (w : World) (hl : rLinks.r (· < w.heap.size) w [.slice a n c] l) :
    Calls Tryz.prog 92 #[.int .u64 pos, .slice a n c] w fun r w' => r = .returned (.bool (linksR pos l)) ∧ Below w.heap.size w w' := by
  obtain ⟨rfl, hm, _, _⟩ := sl_len hl
  have HL := hid hl; clear hl
  by_cases h16 : 16 < l.length
  · have hff : Hid (linksR pos l = false) := hid (by simp [linksR]; omega)
    go_enter Tryz.func92, Tryz.ntmps92
    go_wp2
    go_ret
    exact ⟨by rw [hff.out]; rfl, by (repeat (first | exact Below.refl _ _ | assumption | (refine below_alloc ?_ _) | (refine Below.setCell ?_ (by first | omega | (simp; done) | (simp; omega)) _) | (refine Below.drew ?_) | (refine below_drewN ?_ _) | (refine below_then (by assumption) ?_)))⟩
  · have hff : Hid (linksR pos l = (risesB (l.map Link.stream) && l.all (linkR pos))) := hid (by simp only [linksR]; rw [decide_eq_true (by omega)]; rfl)
    go_enter Tryz.func92, Tryz.ntmps92
    go_wp2_with fail
    go_loopw [5] (fun i wr => ∃ k : Nat, k ≤ l.length ∧ i = .int .i64 k ∧ Hid (linksR pos l = (risesAt (l.map Link.stream) k && (l.drop k).all (linkR pos))) ∧ Below w.heap.size w wr) (fun i _ => l.length - (intOf i).toNat)
    case atStart => exact ⟨0, Nat.zero_le _, rfl, hid (by rw [hff.out]; rfl), Below.refl _ _⟩
    case round =>
      obtain ⟨k, hk, rfl, hf, hb⟩ := hrel
      clear hff
      by_cases hlt : k < l.length
      · obtain ⟨b, o, hA, hbb, a1, c1, hc0, hc1, _, hbs⟩ := link_at HL.out hlt
        have hlt' : (k : Int) < (l.length : Int) := by omega
        have hlR : linkR pos l[k] = (decide (l[k].backs.length ≤ 4) && fallsB pos l[k].backs) := rfl
        have hdr := hid (show (l.drop k).all (linkR pos) = (linkR pos l[k] && (l.drop (k + 1)).all (linkR pos)) by rw [List.drop_eq_getElem_cons hlt]; rfl)
        obtain ⟨z, hz⟩ : ∃ z, l[k] = z := ⟨_, rfl⟩
        rw [hz] at hc0 hc1 hbs hlR hdr
        have HZ := hid hz; clear hz
        have HBS := hid (lift hbs hb)
        have HFA := fun (s : Later wr) => ref22_falls pos z.backs a1 _ c1 s.at_ (lift HBS.out s.below)
        have HF := hid HFA; clear HFA hbs
        rcases k with _ | m
        · have h1 := hid (risesAt_one (l.map Link.stream))
          have X1 := fun s : Later wr => s.cell ((hb.cell (p := ⟨b, o + 0 * 2 + 1, none⟩) hbb).trans hc1)
          subst hA
          simp only [Nat.zero_mul, Nat.add_zero] at X1
          clear hc0 hc1
          by_cases h4 : 4 < z.backs.length
          · have hff : Hid (linksR pos l = false) := hid (by rw [hf.out, hdr.out, hlR, decide_eq_false (by omega)]; simp)
            have d4 : decide (4 < (z.backs.length : Int)) = true := by simp; omega
            clear hlR
            go_wp2_with fail
            refine wp_region_later (by kernel_rfl) (by kernel_rfl) ?_
            repeat (go_big_quiet_step (fail))
            refine wpQuiet_nil ?_
            rintro W5 ⟨⟨W5', hb5⟩, rfl⟩
            go_wp2
            go_ret
            exact ⟨by rw [hff.out]; rfl, below_then hb5 hb⟩
          · have d4 : decide (4 < (z.backs.length : Int)) = false := by simp; omega
            cases hfa : fallsB pos z.backs
            · have hff : Hid (linksR pos l = false) := hid (by rw [hf.out, hdr.out, hlR, hfa]; simp)
              rw [hfa] at HF
              clear hlR hfa
              go_wp2_with fail
              refine wp_region_later (by kernel_rfl) (by kernel_rfl) ?_
              repeat (go_big_quiet_step (((go_at_call 163; exact later_of (HF.out _)))))
              refine wpQuiet_nil ?_
              rintro W5 ⟨⟨W5', hb5⟩, rfl⟩
              go_wp2
              go_ret
              exact ⟨by rw [hff.out]; rfl, below_then hb5 hb⟩
            · have hff : Hid (linksR pos l = (risesAt (l.map Link.stream) (1) && (l.drop (1)).all (linkR pos))) := hid (by rw [hf.out, hdr.out, hlR, hfa, ← h1.out, decide_eq_true (by omega)]; simp)
              rw [hfa] at HF
              clear hlR hfa
              go_wp2_with fail
              refine wp_region_later (by kernel_rfl) (by kernel_rfl) ?_
              repeat (go_big_quiet_step (((go_at_call 163; exact later_of (HF.out _)))))
              refine wpQuiet_nil ?_
              rintro W5 ⟨⟨W5', hb5⟩, rfl⟩
              go_wp2
              go_roundw
              case rel => exact ⟨1, by omega, rfl, hff, below_then hb5 hb⟩
              case measure => simp [intOf]; omega
        · obtain ⟨b', o', hA', hbb', a2, c2, hd0, hd1, _, _⟩ := link_at HL.out (show m < l.length by omega)
          have hst := hid (risesAt_step (l.map Link.stream) m (by simpa using hlt))
          subst hA
          obtain ⟨rfl, rfl⟩ : b' = b ∧ o' = o := by simp at hA'; exact ⟨hA'.1.symm, hA'.2.symm⟩
          clear hA'
          have X0 := fun s : Later wr => s.cell ((hb.cell (p := ⟨b', o' + (m + 1) * 2, none⟩) hbb).trans hc0)
          have X1 := fun s : Later wr => s.cell ((hb.cell (p := ⟨b', o' + (m + 1) * 2 + 1, none⟩) hbb).trans hc1)
          have Y0 := fun s : Later wr => s.cell ((hb.cell (p := ⟨b', o' + m * 2, none⟩) hbb).trans hd0)
          clear hc0 hc1 hd0 hd1
          simp only [List.getElem_map] at hst
          rw [HZ.out] at hst
          generalize hy : l[m].stream = y at *
          clear hy
          generalize hx : z.stream = x at *
          clear hx
          rw [show ((m + 1 : Nat) : Int) = (m : Int) + 1 from by omega]
          have k1 : (0 : Int) < (m : Int) + 1 := by omega
          have k2 : (0 : Int) ≤ (m : Int) + 1 - 1 := by omega
          have k3 : (m : Int) + 1 < (l.length : Int) := by omega
          have k4 : (m : Int) < (l.length : Int) := by omega
          by_cases hge : x ≤ y
          · have d1 : decide (x ≤ y) = true := by simpa using hge
            have hff : Hid (linksR pos l = false) := hid (by rw [hf.out, hst.out, decide_eq_false (by omega)]; rfl)
            clear hge hlR
            go_wp2_with fail
            refine wp_region_later (by kernel_rfl) (by kernel_rfl) ?_
            repeat (go_big_quiet_step (fail))
            refine wpQuiet_nil ?_
            rintro W5 ⟨⟨W5', hb5⟩, rfl⟩
            go_wp2
            go_ret
            exact ⟨by rw [hff.out]; rfl, below_then hb5 hb⟩
          · have d1 : decide (x ≤ y) = false := by simpa using hge
            have hst' : Hid (risesAt (l.map Link.stream) (m + 1) = risesAt (l.map Link.stream) (m + 2)) := hid (by rw [hst.out, decide_eq_true (by omega)]; rfl)
            clear hge
            by_cases h4 : 4 < z.backs.length
            · have hff : Hid (linksR pos l = false) := hid (by rw [hf.out, hdr.out, hlR, decide_eq_false (by omega)]; simp)
              have d4 : decide (4 < (z.backs.length : Int)) = true := by simp; omega
              clear hlR
              go_wp2_with fail
              refine wp_region_later (by kernel_rfl) (by kernel_rfl) ?_
              repeat (go_big_quiet_step (fail))
              refine wpQuiet_nil ?_
              rintro W5 ⟨⟨W5', hb5⟩, rfl⟩
              go_wp2
              go_ret
              exact ⟨by rw [hff.out]; rfl, below_then hb5 hb⟩
            · have d4 : decide (4 < (z.backs.length : Int)) = false := by simp; omega
              cases hfa : fallsB pos z.backs
              · have hff : Hid (linksR pos l = false) := hid (by rw [hf.out, hdr.out, hlR, hfa]; simp)
                rw [hfa] at HF
                clear hlR hfa
                go_wp2_with fail
                refine wp_region_later (by kernel_rfl) (by kernel_rfl) ?_
                repeat (go_big_quiet_step (((go_at_call 163; exact later_of (HF.out _)))))
                refine wpQuiet_nil ?_
                rintro W5 ⟨⟨W5', hb5⟩, rfl⟩
                go_wp2
                go_ret
                exact ⟨by rw [hff.out]; rfl, below_then hb5 hb⟩
              · have hff : Hid (linksR pos l = (risesAt (l.map Link.stream) (m + 2) && (l.drop (m + 2)).all (linkR pos))) := hid (by rw [hf.out, hdr.out, hlR, hfa, hst'.out, decide_eq_true (by omega)]; simp)
                rw [hfa] at HF
                clear hlR hfa
                go_wp2_with fail
                refine wp_region_later (by kernel_rfl) (by kernel_rfl) ?_
                repeat (go_big_quiet_step (((go_at_call 163; exact later_of (HF.out _)))))
                refine wpQuiet_nil ?_
                rintro W5 ⟨⟨W5', hb5⟩, rfl⟩
                go_wp2
                go_roundw
                case rel => exact ⟨m + 2, by omega, by go_num, hff, below_then hb5 hb⟩
                case measure => simp [intOf]; omega
      · obtain rfl : k = l.length := by omega
        have hff : Hid (linksR pos l = true) := hid (by
          have := risesAt_end (l.map Link.stream)
          rw [List.length_map] at this
          rw [hf.out, this, List.drop_length]; rfl)
        go_wp2
        go_ret
        exact ⟨by rw [hff.out]; rfl, hb⟩

set_option maxHeartbeats 800000 in
theorem ref23_one (x y : Link) (a a' : Option Addr) (n c n' c' : Nat) (w : World) (hx : rU64s.r (· < w.heap.size) w [.slice a n c] x.backs) (hy : rU64s.r (· < w.heap.size) w [.slice a' n' c'] y.backs) :
    Calls Tryz.prog 169 #[.agg #[.int .u64 x.stream, .slice a n c], .agg #[.int .u64 y.stream, .slice a' n' c']] w fun r w' => r = .returned (.bool (decide (x = y))) ∧ Below w.heap.size w w' := by
  have he : decide (x = y) = (decide (x.stream = y.stream) && decide (x.backs = y.backs)) := by
    rw [Bool.eq_iff_iff]; cases x; cases y; simp
  have HE := hid he; clear he
  have HX := hid hx; clear hx
  have HY := hid hy; clear hy
  by_cases h : x.stream = y.stream
  · have e1 : (x.stream == y.stream) = true := by simp [h]
    have hff : Hid (decide (x = y) = decide (x.backs = y.backs)) := hid (by rw [HE.out]; simp [h])
    clear h
    go_enter Tryz.func169, Tryz.ntmps169
    go_wp2_with fail
    refine (same_u64s x.backs y.backs _ _ _ _ _ _ _ (lift HX.out (by (repeat (first | exact Below.refl _ _ | assumption | (refine below_alloc ?_ _) | (refine Below.setCell ?_ (by first | omega | (simp; done) | (simp; omega)) _) | (refine Below.drew ?_) | (refine below_drewN ?_ _) | (refine below_then (by assumption) ?_))))) (lift HY.out (by (repeat (first | exact Below.refl _ _ | assumption | (refine below_alloc ?_ _) | (refine Below.setCell ?_ (by first | omega | (simp; done) | (simp; omega)) _) | (refine Below.drew ?_) | (refine below_drewN ?_ _) | (refine below_then (by assumption) ?_)))))).mono ?_
    rintro e w1 ⟨rfl, hb1⟩
    go_wp2
    go_ret
    exact ⟨by rw [hff.out]; rfl, by (repeat (first | exact Below.refl _ _ | assumption | (refine below_alloc ?_ _) | (refine Below.setCell ?_ (by first | omega | (simp; done) | (simp; omega)) _) | (refine Below.drew ?_) | (refine below_drewN ?_ _) | (refine below_then (by assumption) ?_)))⟩
  · have e1 : (x.stream == y.stream) = false := by simp [h]
    have hff : Hid (decide (x = y) = false) := hid (by rw [HE.out]; simp [h])
    clear h
    go_enter Tryz.func169, Tryz.ntmps169
    go_wp2
    go_ret
    exact ⟨by rw [hff.out]; rfl, by (repeat (first | exact Below.refl _ _ | assumption | (refine below_alloc ?_ _) | (refine Below.setCell ?_ (by first | omega | (simp; done) | (simp; omega)) _) | (refine Below.drew ?_) | (refine below_drewN ?_ _) | (refine below_then (by assumption) ?_)))⟩
end Go.Proofs.YtlbffbkbkajciaaGreat
namespace Go.Proofs.YtlbffbkbkajciaaGreat
open Go.RowKit Go.Bs
set_option linter.unusedVariables false
set_option linter.unusedSimpArgs false

set_option maxHeartbeats 1600000 in
theorem ref23_same (x y : List Link) (a a' : Option Addr) (n c n' c' : Nat) (w : World) (hx : rLinks.r (· < w.heap.size) w [.slice a n c] x) (hy : rLinks.r (· < w.heap.size) w [.slice a' n' c'] y) :
    Calls Tryz.prog 100 #[.slice a n c, .slice a' n' c'] w fun r w' => r = .returned (.bool (decide (x = y))) ∧ Below w.heap.size w w' := by
  obtain ⟨rfl, hm, _, _⟩ := sl_len hx
  obtain ⟨rfl, hm', _, _⟩ := sl_len hy
  by_cases hl : x.length = y.length
  · have HX := hid hx; clear hx
    have HY := hid hy; clear hy
    have HL := hid hl
    have e1 : ((x.length : Int) != (y.length : Int)) = false := by simp [hl]
    clear hl
    go_enter Tryz.func100, Tryz.ntmps100
    go_wp2
    go_loopw [5] (fun i wr => ∃ k : Nat, k ≤ x.length ∧ i = .int .i64 k ∧ Hid (decide (x = y) = decide (x.drop k = y.drop k)) ∧ Below w.heap.size w wr) (fun i _ => x.length - (intOf i).toNat)
    case atStart => exact ⟨0, Nat.zero_le _, rfl, hid rfl, Below.refl _ _⟩
    case round =>
      obtain ⟨k, hk, rfl, hf, hb⟩ := hrel
      by_cases hlt : k < x.length
      · have hlt' : k < y.length := by rw [← HL.out]; exact hlt
        obtain ⟨b, o, hA, hbb, a1, c1, hc0, hc1, _, hr1⟩ := link_at HX.out hlt
        obtain ⟨b', o', hA', hbb', a2, c2, hd0, hd1, _, hr2⟩ := link_at HY.out hlt'
        have hst := hid (drop_eq_step x y k hlt hlt')
        subst hA hA'
        have X0 := fun s : Later wr => s.cell ((hb.cell (p := ⟨b, o + k * 2, none⟩) hbb).trans hc0)
        have X1 := fun s : Later wr => s.cell ((hb.cell (p := ⟨b, o + k * 2 + 1, none⟩) hbb).trans hc1)
        have Y0 := fun s : Later wr => s.cell ((hb.cell (p := ⟨b', o' + k * 2, none⟩) hbb').trans hd0)
        have Y1 := fun s : Later wr => s.cell ((hb.cell (p := ⟨b', o' + k * 2 + 1, none⟩) hbb').trans hd1)
        clear hc0 hc1 hd0 hd1
        generalize hlk : x[k] = u at *
        generalize hlm : y[k] = v at *
        clear hlk hlm
        have hs1 := hid (lift hr1 hb)
        have hs2 := hid (lift hr2 hb)
        clear hr1 hr2
        have hO := fun s : Later wr => ref23_one u v a1 a2 _ c1 _ c2 s.at_ (lift hs1.out s.below) (lift hs2.out s.below)
        have i0 : (0 : Int) ≤ (k : Int) := by omega
        have i1 : (k : Int) < (x.length : Int) := by omega
        have i2 : (k : Int) < (y.length : Int) := by omega
        by_cases huv : u = v
        · rw [decide_eq_true huv] at hO
          have HO := hid hO; clear hO
          have hst' : Hid (decide (x.drop k = y.drop k) = decide (x.drop (k + 1) = y.drop (k + 1))) := hid (by rw [hst.out]; simp [huv])
          clear huv
          go_wp2_with fail
          refine wp_region_later (by kernel_rfl) (by kernel_rfl) ?_
          repeat (go_big_quiet_step (((go_at_call 169; exact later_of (HO.out _)))))
          refine wpQuiet_nil ?_
          rintro W5 ⟨⟨W5', hb5⟩, rfl⟩
          go_wp2
          go_roundw
          case rel => exact ⟨k + 1, by omega, by go_num, hid (by rw [hf.out, hst'.out]), below_then hb5 hb⟩
          case measure => simp [intOf]; omega
        · rw [decide_eq_false huv] at hO
          have HO := hid hO; clear hO
          have hff : Hid (decide (x = y) = false) := hid (by rw [hf.out, hst.out]; simp [huv])
          clear huv
          go_wp2_with fail
          refine wp_region_later (by kernel_rfl) (by kernel_rfl) ?_
          repeat (go_big_quiet_step (((go_at_call 169; exact later_of (HO.out _)))))
          refine wpQuiet_nil ?_
          rintro W5 ⟨⟨W5', hb5⟩, rfl⟩
          go_wp2
          go_ret
          exact ⟨by rw [hff.out]; rfl, below_then hb5 hb⟩
      · obtain rfl : k = x.length := by omega
        have hff : Hid (decide (x = y) = true) := hid (by rw [hf.out, List.drop_length, List.drop_of_length_le (by rw [HL.out]; exact Nat.le_refl _)]; rfl)
        go_wp2
        go_ret
        exact ⟨by rw [hff.out]; rfl, hb⟩
  · have hff : Hid (decide (x = y) = false) := hid (by simp; rintro rfl; exact hl rfl)
    have e1 : ((x.length : Int) != (y.length : Int)) = true := by simp; omega
    clear hl hx hy
    go_enter Tryz.func100, Tryz.ntmps100
    go_wp2
    go_ret
    exact ⟨by rw [hff.out]; rfl, Below.refl _ _⟩

end Go.Proofs.YtlbffbkbkajciaaGreat
namespace Go.Proofs.YtlbffbkbkajciaaGreat
open Go.RowKit Go.Bs
set_option linter.unusedVariables false
set_option linter.unusedSimpArgs false

theorem info8 : (Tryz.prog.info? 5).map (fun i => (i.zero, i.size, i.bytes)) = some (some (.int .u8 0), 1, 1) := by kernel_rfl

end Go.Proofs.YtlbffbkbkajciaaGreat
namespace Go.Proofs.YtlbffbkbkajciaaGreat
open Go.RowKit Go.Bs
set_option linter.unusedVariables false
set_option linter.unusedSimpArgs false

theorem sl_take {α : Type} {sz : Nat} {A : Rp α} {S : Nat → Prop} {w : World} {xs : List α} {a : Option Addr} {n c k : Nat} (h : (rSl sz A).r S w [.slice a n c] xs) (hk : k ≤ xs.length) : (rSl sz A).r S w [.slice a k c] (xs.take k) := by
  obtain ⟨a', c', e, h1, h2, h3⟩ := h
  simp at e
  obtain ⟨rfl, rfl, rfl⟩ := e
  have hl : (xs.take k).length = k := by simp; omega
  refine rSl_mk (by rw [hl]) (by omega) h2 ?_
  rcases h3 with rfl | ⟨b, off, rfl, hS, hr⟩
  · exact .inl (by simp)
  · refine .inr ⟨b, off, rfl, hS, fun i x hi => hr i x ?_⟩
    rw [List.getElem?_take] at hi
    split at hi
    · exact hi
    · cases hi

end Go.Proofs.YtlbffbkbkajciaaGreat
