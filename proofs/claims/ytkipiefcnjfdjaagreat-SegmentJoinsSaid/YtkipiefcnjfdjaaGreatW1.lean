/- Needed by segNeeds, part 1: texts put together by shake.py; no condition. -/
import Derived.WalkKit
import Derived.WalkLawsBesides
import Derived.WalkSpells
import Derived.Outline
import Derived.BigQuiet
import Derived.Deep.QuietTactic
import Derived.ProofKit
import Derived.OpenShut
import Derived.Deep.Slices
import Derived.Lib.SmallJoins
import Derived.Test.YtkipiefcnjfdjaaGreatRows
import Derived.Deep.AppendLies
import Derived.Laws.IdiomStrings
import Derived.Laws.BytesArg
import Derived.Maps.AppendAt
namespace Go.Bs
open Go.RowKit
theorem hid {p : Prop} (h : p) : Hid p := h
theorem below_alloc {a W : World} (h : Below a.heap.size a W) (o : Obj) : Below a.heap.size a (W.alloc o) := h.alloc h.size _
theorem below_drewN {B : Nat} {a w : World} (h : Below B a w) (n : Nat) : Below B a (w.drewN n) := ⟨h.os, h.tape, h.output, h.size, h.block⟩
theorem below_then {a W w' : World} (hb : Below W.heap.size W w') (h : Below a.heap.size a W) : Below a.heap.size a w' := h.trans (hb.mono h.size)
theorem zR {B : Nat} {a : World} : Below B a a := Below.refl B a
theorem zA {a W : World} {o : Obj} (h : Below a.heap.size a W) : Below a.heap.size a (W.alloc o) := below_alloc h o
theorem zS {B : Nat} {a W : World} {p : Addr} {v : Value} (h : Below B a W) (hp : B ≤ p.block) : Below B a (W.setCell p v) := h.setCell hp v
theorem zD {B : Nat} {a W : World} (h : Below B a W) : Below B a W.drew := h.drew
theorem zN {B n : Nat} {a W : World} (h : Below B a W) : Below B a (W.drewN n) := below_drewN h n
theorem zT {a W w' : World} (hb : Below W.heap.size W w') (h : Below a.heap.size a W) : Below a.heap.size a w' := below_then hb h
def Blk (w : World) (g : Nat) (t : TypeId) (cs : Array Value) : Prop := w.heap[g]? = some (.cells cs t (0, 0))
section
variable {w w' : World} {g : Nat} {t : TypeId} {cs : Array Value}
theorem Blk.lt (h : Blk w g t cs) : g < w.heap.size := by
 rcases Nat.lt_or_ge g w.heap.size with h' | h'
 ·exact h'
 ·unfold Blk at h; rw [Array.getElem?_eq_none h'] at h; cases h
theorem Blk.cell (h : Blk w g t cs) (i : Nat) : w.cell? ⟨g, i, none⟩ = cs[i]? := by unfold Blk at h; simp [World.cell?, h]
theorem Blk.free (h : Blk w g t cs) (i : Nat) : w.frozen? ⟨g, i, none⟩ = false := by unfold Blk at h; simp [World.frozen?, h]
theorem Blk.new (w : World) (t : TypeId) (cs : Array Value) : Blk (w.alloc (.cells cs t)) w.heap.size t cs := by
 unfold Blk; show (w.heap.push _)[w.heap.size]? = _; simp
theorem Blk.newAt (w : World) (t : TypeId) (cs : Array Value) {g : Nat} (h : g = w.heap.size) : Blk (w.alloc (.cells cs t)) g t cs := h ▸ Blk.new w t cs
theorem Blk.new1 (w : World) (o : Obj) (t : TypeId) (cs : Array Value) : Blk ((w.alloc o).alloc (.cells cs t)) (w.heap.size + 1) t cs := by
 have := Blk.new (w.alloc o) t cs
 simpa using this
theorem Blk.alloc (h : Blk w g t cs) (o : Obj) : Blk (w.alloc o) g t cs := (Below.heap_alloc w o g h.lt).trans h
theorem Blk.drewN (h : Blk w g t cs) (n : Nat) : Blk (w.drewN n) g t cs := h
theorem Blk.drew (h : Blk w g t cs) : Blk w.drew g t cs := h
theorem Blk.set (h : Blk w g t cs) (i : Nat) (u : Value) : Blk (w.setCell ⟨g, i, none⟩ u) g t (cs.setIfInBounds i u) := by
 unfold Blk at h ⊢
 simp [World.setCell, Array.getElem?_modify, h]
theorem Blk.far (h : Blk w g t cs) {p : Addr} (hp : g ≠ p.block) (u : Value) : Blk (w.setCell p u) g t cs := (Below.heap_setCell w p u g hp).trans h
theorem Blk.below {B : Nat} (h : Blk w g t cs) (hb : Below B w w') (hg : g < B) : Blk w' g t cs := (hb.block g hg).trans h
theorem Blk.later (h : Blk w g t cs) (hb : Below w.heap.size w w') : Blk w' g t cs := h.below hb h.lt
theorem Blk.grown {row : Option Nat} (h : Blk w g t cs) (hb : w.grownBy w' row) (hg : some g ≠ row) : Blk w' g t cs := (hb.block g h.lt hg).trans h
end
theorem kW {w : World} {t : TypeId} {cs : Array Value} {g : Nat} (h : g = w.heap.size) : Blk (w.alloc (.cells cs t)) g t cs := Blk.newAt w t cs h
theorem kA {w : World} {t : TypeId} {cs : Array Value} {g : Nat} {o : Obj} (h : Blk w g t cs) : Blk (w.alloc o) g t cs := h.alloc o
theorem kD {w : World} {t : TypeId} {cs : Array Value} {g : Nat} (h : Blk w g t cs) : Blk w.drew g t cs := h
theorem kN {w : World} {t : TypeId} {cs : Array Value} {g n : Nat} (h : Blk w g t cs) : Blk (w.drewN n) g t cs := h
theorem kF {w : World} {t : TypeId} {cs : Array Value} {g : Nat} {p : Addr} {v : Value} (h : Blk w g t cs) (hp : g ≠ p.block) : Blk (w.setCell p v) g t cs := h.far hp v
structure Later (w : World) where
 at_ : World
 below : Below w.heap.size w at_
instance (w : World) : Inhabited (Later w) := ⟨⟨w, Below.refl _ _⟩⟩
theorem Later.cell {w : World} {b o : Nat} {v : Value} (h : w.cell? ⟨b, o, none⟩ = some v) (s : Later w) : s.at_.cell? ⟨b, o, none⟩ = some v := by
 have hlt := World.block_lt_of_cell? w _ h
 rw [s.below.cell (p := ⟨b, o, none⟩) hlt]; exact h
theorem bcell {W w1 : World} (hb : Below W.heap.size W w1) : (∀ b o, b < W.heap.size → w1.cell? ⟨b, o, none⟩ = W.cell? ⟨b, o, none⟩) ∧ (∀ b o, b < W.heap.size → w1.frozen? ⟨b, o, none⟩ = W.frozen? ⟨b, o, none⟩) :=
 ⟨fun b o h => hb.cell (p := ⟨b, o, none⟩) h, fun b o h => hb.frozen (p := ⟨b, o, none⟩) h⟩
section
variable {P : Program}
theorem wp_world {c : Code} {Q : Exit → Act → World → Prop} {a : Act} {w : World} (F : World → Prop) (hF : F w) (h : ∀ W, F W → c.wp P Q a W) : c.wp P Q a w := h w hF
theorem wp_region_later {id : Nat} {Q : Exit → Act → World → Prop} {a : Act} {w : World} {l : List Oper} (hm : P.follows .mixedOrders = true) (hB : Region.lexB .any l.toArray = true)
  (h : wpQuiet P l.toArray (fun w' => ∃ s : Later w, w' = s.at_) (fun a' => ∀ w', (∃ s : Later w, w' = s.at_) → Q .normal a' w') l a) : (Code.region id l.toArray true).wp P Q a w :=
 wp_region_quiet (C := fun w' => ∃ s : Later w, w' = s.at_) hm hB ⟨⟨w.drew, (Below.refl _ _).drew⟩, rfl⟩ (by simpa using h)
theorem later_of {f : FuncId} {args : Array Value} {w : World} {s : Later w} {v : Value}
  (h : Calls P f args s.at_ fun e w' => e = .returned v ∧ Below s.at_.heap.size s.at_ w') : Calls P f args s.at_ fun e w'' => e = .returned v ∧ ∃ s' : Later w, w'' = s'.at_ :=
 h.mono fun _ w' ⟨he, hb⟩ => ⟨he, ⟨w', s.below.trans (hb.mono s.below.size)⟩, rfl⟩
end
end Go.Bs
namespace Go.Bs
open Go.RowKit
set_option linter.unusedVariables false
structure Rp (α : Type) where
 r : (Nat → Prop) → World → List Value → α → Prop
 keep : ∀ {S : Nat → Prop} {w w' : World} {cs : List Value} {x : α}, r S w cs x → (∀ b, S b → w'.heap[b]? = w.heap[b]?) → r S w' cs x
 mono : ∀ {S S' : Nat → Prop} {w : World} {cs : List Value} {x : α}, r S w cs x → (∀ b, S b → S' b) → r S' w cs x
def rInt (k : IntKind) : Rp Int := ⟨fun _ _ cs n => cs = [.int k n] ∧ (Lit.int k n).wf = true, fun h _ => h, fun h _ => h⟩
def rByte : Rp UInt8 := ⟨fun _ _ cs b => cs = [.int .u8 (b.toNat : Int)], fun h _ => h, fun h _ => h⟩
def rPair {α β : Type} (A : Rp α) (B : Rp β) : Rp (α × β) :=
  ⟨fun S w cs x => ∃ c d, cs = c ++ d ∧ A.r S w c x.1 ∧ B.r S w d x.2,
   fun ⟨c, d, h, h1, h2⟩ hk => ⟨c, d, h, A.keep h1 hk, B.keep h2 hk⟩, fun ⟨c, d, h, h1, h2⟩ hk => ⟨c, d, h, A.mono h1 hk, B.mono h2 hk⟩⟩
def rBy {α β : Type} (f : α → β) (B : Rp β) : Rp α := ⟨fun S w cs x => B.r S w cs (f x), fun h hk => B.keep h hk, fun h hk => B.mono h hk⟩
def RRow {α : Type} (sz : Nat) (A : Rp α) (S : Nat → Prop) (w : World) (b off : Nat) (xs : List α) : Prop :=
 S b ∧ ∀ i x, xs[i]? = some x → ∃ cs : List Value, cs.length = sz ∧ (∀ j v, cs[j]? = some v → w.cell? ⟨b, off + i * sz + j, none⟩ = some v) ∧ A.r S w cs x
def rSl {α : Type} (sz : Nat) (A : Rp α) : Rp (List α) :=
  ⟨fun S w cs xs => ∃ a c, cs = [.slice a xs.length c] ∧ xs.length ≤ c ∧ c ≤ maxLen ∧ (xs = [] ∨ ∃ b off, a = some ⟨b, off, none⟩ ∧ RRow sz A S w b off xs),
   fun ⟨a, c, h, h1, h2, h3⟩ hk => ⟨a, c, h, h1, h2, h3.imp id fun ⟨b, off, e, hb, hr⟩ => ⟨b, off, e, hb, fun i x hi =>
     let ⟨cs, hl, hc, hA⟩ := hr i x hi
     ⟨cs, hl, fun j v hj => (World.cell?_of_block (a := ⟨b, off + i * sz + j, none⟩) (hk b hb)).trans (hc j v hj), A.keep hA hk⟩⟩⟩,
   fun ⟨a, c, h, h1, h2, h3⟩ hk => ⟨a, c, h, h1, h2, h3.imp id fun ⟨b, off, e, hb, hr⟩ => ⟨b, off, e, hk b hb, fun i x hi =>
     let ⟨cs, hl, hc, hA⟩ := hr i x hi
     ⟨cs, hl, hc, A.mono hA hk⟩⟩⟩⟩
theorem rSl_mk {α : Type} {sz : Nat} {A : Rp α} {S : Nat → Prop} {w : World} {cs : List Value} {xs : List α} {a : Option Addr} {c : Nat} (h : cs = [.slice a xs.length c]) (h1 : xs.length ≤ c) (h2 : c ≤ maxLen)
  (h3 : xs = [] ∨ ∃ b off, a = some ⟨b, off, none⟩ ∧ RRow sz A S w b off xs) : (rSl sz A).r S w cs xs := ⟨a, c, h, h1, h2, h3⟩
theorem choose_list {α : Type} (n : Nat) (Q : Nat → α → Prop) (h : ∀ i, i < n → ∃ y, Q i y) : ∃ ys : List α, ys.length = n ∧ ∀ i y, ys[i]? = some y → Q i y := by
 induction n with
 | zero => exact ⟨[], rfl, fun i y h => by simp at h⟩
 | succ n ih =>
  obtain ⟨ys, h1, h2⟩ := ih fun i hi => h i (by omega)
  obtain ⟨y, hy⟩ := h n (by omega)
  refine ⟨ys ++ [y], by simp [h1], fun i z hz => ?_⟩
  rcases Nat.lt_or_ge i ys.length with hi | hi
  ·rw [List.getElem?_append_left hi] at hz
   exact h2 i z hz
  ·rw [List.getElem?_append_right hi] at hz
   have h0 : i - ys.length = 0 := by
    rcases Nat.eq_zero_or_pos (i - ys.length) with h | h
    ·exact h
    ·rw [List.getElem?_eq_none (by simp; omega)] at hz; cases hz
   rw [h0] at hz
   simp at hz
   subst hz
   have : i = n := by omega
   subst this
   exact hy
theorem Rp.below {α : Type} (A : Rp α) {w w' : World} {B : Nat} {cs : List Value} {x : α} (h : A.r (· < B) w cs x) (hb : Below B w w') : A.r (· < B) w' cs x := A.keep h hb.block
section
variable {P : Program}
def Opens (P : Program) (t : TypeId) {α : Type} (A : Rp α) : Prop :=
 ∀ {H : Type} (enc : TypeId × Value → H) (w : World) (fuel : Nat) (cs : List Value) (x : DataW H × List MemPlace), DataW.trod enc P w 0 (fun _ => true) true fuel t cs = some x → ∃ y, A.r (· < w.heap.size) w cs y
theorem opens_int {t : TypeId} {k : IntKind} (ht : P.underlying t = some (.int k)) : Opens P t (rInt k) := fun enc w fuel cs x h => by
 obtain ⟨n, rfl, _, hw⟩ := DataW.trod_int ht h
 exact ⟨n, rfl, hw⟩
theorem opens_byte {t : TypeId} (ht : P.underlying t = some (.int .u8)) : Opens P t rByte := fun enc w fuel cs x h => by
 obtain ⟨n, rfl, _, hw⟩ := DataW.trod_int ht h
 have := bounds_u8 hw
 refine ⟨UInt8.ofNat n.toNat, ?_⟩
 show _ = _
 have e : ((UInt8.ofNat n.toNat).toNat : Int) = n := by
  simp [UInt8.toNat_ofNat']; omega
 rw [e]
theorem add_none {a : Addr} {b : Nat} {n : Nat} {v : Value} {w : World} (h : w.cell? (a.add n) = some v) : n = 0 → a.spot = none := by
 rintro rfl
 unfold Addr.add at h
 simp only [if_true] at h
 unfold World.cell? at h
 cases hs : a.spot with
 | none => rfl
 | some s =>
  rw [hs] at h
  split at h <;> simp at h
theorem opens_slice {t e : TypeId} {sz : Nat} {α : Type} {A : Rp α} (ht : P.underlying t = some (.slice e)) (hs : P.cellsOf e = sz) (hsz : 0 < sz) (hA : Opens P e A) : Opens P t (rSl sz A) := fun enc w fuel cs x h => by
 rcases Deep.open_slice ht h with ⟨rfl, rfl⟩ | ⟨a, len, cap, m, n, D, Pl, rfl, hb, hl, hm, hmm, _, hel⟩
 ·exact ⟨[], rSl_mk rfl (Nat.le_refl _) (Nat.zero_le _) (.inl rfl)⟩
 ·have hlm : len ≤ m := by simp at hmm; omega
  rw [hs] at hel
  have hy : ∀ i, i < len → ∃ y, ∃ cs' : List Value, cs'.length = sz ∧ (∀ j v, cs'[j]? = some v → w.cell? ((a.add (i * sz)).add j) = some v) ∧ A.r (· < w.heap.size) w cs' y := by
   intro i hi
   obtain ⟨cs', hc, ht'⟩ := hel i (by omega)
   obtain ⟨y, hy⟩ := hA enc w n cs' _ ht'
   obtain ⟨_, h1, h2⟩ := World.cells?_some hc
   exact ⟨y, cs', h1, fun j v hj => by
    have hj' : j < sz := by rw [← h1]; exact (List.getElem?_eq_some_iff.1 hj).1
    rw [h2 j hj']; exact hj, hy⟩
  by_cases h0 : len = 0
  ·subst h0
   exact ⟨[], rSl_mk rfl (Nat.zero_le _) hm (.inl rfl)⟩
  have hspot : a.spot = none := by
   obtain ⟨y, cs', h1, h2, _⟩ := hy 0 (by omega)
   obtain ⟨v, hv⟩ : ∃ v, cs'[0]? = some v := ⟨cs'[0], List.getElem?_eq_getElem (by omega)⟩
   have := h2 0 v hv
   have e1 : (a.add (0 * sz)).add 0 = a.add 0 := by simp [Addr.add]
   rw [e1] at this
   exact add_none (b := 0) this rfl
  obtain ⟨ys, hys⟩ : ∃ ys : List α, ys.length = len ∧ ∀ i y, ys[i]? = some y → ∃ cs' : List Value, cs'.length = sz ∧ (∀ j v, cs'[j]? = some v → w.cell? ((a.add (i * sz)).add j) = some v) ∧ A.r (· < w.heap.size) w cs' y := by
   exact choose_list len _ hy
  obtain ⟨hlen, hys⟩ := hys
  refine ⟨ys, rSl_mk (a := some a) (c := cap) (by rw [hlen]) (by omega) hm (.inr ⟨a.block, a.off, by cases a; simp at hspot; rw [hspot], ?_, ?_⟩)⟩
  ·obtain ⟨y, cs', h1, h2, _⟩ := hy 0 (by omega)
   obtain ⟨v, hv⟩ : ∃ v, cs'[0]? = some v := ⟨cs'[0], List.getElem?_eq_getElem (by omega)⟩
   have := World.block_lt_of_cell? w _ (h2 0 v hv)
   simpa [Addr.add] using this
  ·intro i y hiy
   obtain ⟨cs', h1, h2, h3⟩ := hys i y hiy
   refine ⟨cs', h1, fun j v hj => ?_, h3⟩
   rw [← h2 j v hj]
   congr 1
   cases a with
   | mk ab ao asp =>
    simp at hspot
    subst hspot
    unfold Addr.add
    split <;> split <;> simp_all
theorem trod_fields {H : Type} {enc : TypeId × Value → H} {w : World} {fuel : Nat} {t : TypeId} {cs : List Value} {x : DataW H × List MemPlace} {fs : Array Field} (ht : P.underlying t = some (.struct fs)) (h : DataW.trod enc P w 0 (fun _ => true) true fuel t cs = some x) :
  cs.length = P.cellsOf t ∧ ∃ n, ∀ (i : Nat) (f : Field), fs[i]? = some f → ∃ y, DataW.trod enc P w 0 (fun _ => true) true n f.type ((cs.drop f.offset).take (P.cellsOf f.type)) = some y := by
 obtain ⟨xs, n, _, _, h1, h2, h3⟩ := DataW.trod_struct ht h
 refine ⟨h1, n, fun i f hf => ?_⟩
 have hi : i < fs.size := (Array.getElem?_eq_some_iff.1 hf).1
 rw [h3 i f hf, List.getElem?_eq_getElem (by omega)]
 exact ⟨_, rfl⟩
theorem pair_step {α β : Type} {A : Rp α} {B : Rp β} {S : Nat → Prop} {w : World} {cs : List Value} {o s o' : Nat} {x : α} {y : β} (ho : o + s = o') (h1 : A.r S w ((cs.drop o).take s) x) (h2 : B.r S w (cs.drop o') y) : (rPair A B).r S w (cs.drop o) (x, y) :=
 ⟨_, _, by subst ho; rw [← List.drop_drop, List.take_append_drop], h1, h2⟩
theorem last_step {β : Type} {B : Rp β} {S : Nat → Prop} {w : World} {cs : List Value} {o s : Nat} {y : β} (hl : cs.length = o + s) (h2 : B.r S w ((cs.drop o).take s) y) : B.r S w (cs.drop o) y := by
 rwa [List.take_of_length_le (by simp; omega)] at h2
end
end Go.Bs
namespace Go.Bs
open Go.RowKit
set_option linter.unusedVariables false
structure Link where
 stream : Int
 backs : List Int
structure Entry where
 links : List Link
 data : List UInt8
structure Batch where
 epoch : Int
 base : Int
 entries : List Entry
structure Seg where
 epoch : Int
 batches : List Batch
def rU64s : Rp (List Int) := rSl 1 (rInt .u64)
def rBytes : Rp (List UInt8) := rSl 1 rByte
def rLink : Rp Link := rBy (fun l => (l.stream, l.backs)) (rPair (rInt .u64) rU64s)
def rLinks : Rp (List Link) := rSl 2 rLink
def rEntry : Rp Entry := rBy (fun e => (e.links, e.data)) (rPair rLinks rBytes)
def rEntries : Rp (List Entry) := rSl 2 rEntry
def rBatch : Rp Batch := rBy (fun b => (b.epoch, b.base, b.entries)) (rPair (rInt .u64) (rPair (rInt .u64) rEntries))
def rBatches : Rp (List Batch) := rSl 3 rBatch
def rSeg : Rp Seg := rBy (fun g => (g.epoch, g.batches)) (rPair (rInt .u64) rBatches)
section
variable {S : Nat → Prop} {w : World} {cs : List Value}
theorem sl_form {α : Type} {sz : Nat} {A : Rp α} {xs : List α} (h : (rSl sz A).r S w cs xs) : ∃ a c, cs = [.slice a xs.length c] ∧ (rSl sz A).r S w [.slice a xs.length c] xs ∧ xs.length ≤ 9223372036854775807 := by
 obtain ⟨a, c, rfl, h1, h2, h3⟩ := h
 exact ⟨a, c, rfl, ⟨a, c, rfl, h1, h2, h3⟩, by unfold maxLen at h2; omega⟩
theorem sl_len {α : Type} {sz : Nat} {A : Rp α} {xs : List α} {a : Option Addr} {n c : Nat} (h : (rSl sz A).r S w [.slice a n c] xs) : n = xs.length ∧ xs.length ≤ 9223372036854775807 ∧ n ≤ c ∧ c ≤ 9223372036854775807 := by
 obtain ⟨a', c', e, h1, h2, h3⟩ := h
 simp at e
 obtain ⟨_, rfl, rfl⟩ := e
 exact ⟨rfl, by unfold maxLen at h2; omega, h1, h2⟩
theorem sl_at {α : Type} {sz : Nat} {A : Rp α} {xs : List α} {a : Option Addr} {n c : Nat} (h : (rSl sz A).r S w [.slice a n c] xs) {i : Nat} (hi : i < xs.length) :
  ∃ b off, a = some ⟨b, off, none⟩ ∧ S b ∧ ∃ cs : List Value, cs.length = sz ∧ (∀ j v, cs[j]? = some v → w.cell? ⟨b, off + i * sz + j, none⟩ = some v) ∧ A.r S w cs xs[i] := by
 obtain ⟨a', c', e, h1, h2, h3⟩ := h
 simp at e
 obtain ⟨rfl, rfl, rfl⟩ := e
 rcases h3 with rfl | ⟨b, off, rfl, hS, hr⟩
 ·simp at hi
 ·obtain ⟨cs, hl, hc, hA⟩ := hr i xs[i] (List.getElem?_eq_getElem hi)
  exact ⟨b, off, rfl, hS, cs, hl, hc, hA⟩
theorem link_cells {x : Link} (h : rLink.r S w cs x) : ∃ a c, cs = [.int .u64 x.stream, .slice a x.backs.length c] ∧ (0 ≤ x.stream ∧ x.stream ≤ 18446744073709551615) ∧ rU64s.r S w [.slice a x.backs.length c] x.backs := by
 obtain ⟨c1, c2, rfl, ⟨rfl, hw⟩, h2⟩ := h
 obtain ⟨a, c, rfl, h3, _⟩ := sl_form h2
 exact ⟨a, c, rfl, bounds_u64 hw, h3⟩
theorem entry_cells {x : Entry} (h : rEntry.r S w cs x) : ∃ a c a' c', cs = [.slice a x.links.length c, .slice a' x.data.length c'] ∧ rLinks.r S w [.slice a x.links.length c] x.links ∧ rBytes.r S w [.slice a' x.data.length c'] x.data := by
 obtain ⟨c1, c2, rfl, h1, h2⟩ := h
 obtain ⟨a, c, rfl, h3, _⟩ := sl_form h1
 obtain ⟨a', c', rfl, h4, _⟩ := sl_form h2
 exact ⟨a, c, a', c', rfl, h3, h4⟩
theorem batch_cells {x : Batch} (h : rBatch.r S w cs x) : ∃ a c, cs = [.int .u64 x.epoch, .int .u64 x.base, .slice a x.entries.length c] ∧ (0 ≤ x.epoch ∧ x.epoch ≤ 18446744073709551615) ∧ (0 ≤ x.base ∧ x.base ≤ 18446744073709551615) ∧ rEntries.r S w [.slice a x.entries.length c] x.entries := by
 obtain ⟨c1, c2, rfl, ⟨rfl, hw⟩, d1, d2, rfl, ⟨rfl, hw2⟩, h2⟩ := h
 obtain ⟨a, c, rfl, h3, _⟩ := sl_form h2
 exact ⟨a, c, rfl, bounds_u64 hw, bounds_u64 hw2, h3⟩
theorem u64_wf {n : Int} (h : 0 ≤ n ∧ n ≤ 18446744073709551615) : (Lit.int .u64 n).wf = true := by
 simp [Lit.wf, IntKind.min, IntKind.max, IntKind.signed, IntKind.bits]; omega
theorem link_mk {x : Link} {a : Option Addr} {n c : Nat} (h0 : 0 ≤ x.stream ∧ x.stream ≤ 18446744073709551615) (h : rU64s.r S w [.slice a n c] x.backs) : rLink.r S w [.int .u64 x.stream, .slice a n c] x := ⟨[_], [_], rfl, ⟨rfl, u64_wf h0⟩, h⟩
theorem batch_mk {x : Batch} {v : Value} (h0 : 0 ≤ x.epoch ∧ x.epoch ≤ 18446744073709551615) (h1 : 0 ≤ x.base ∧ x.base ≤ 18446744073709551615) (h : rEntries.r S w [v] x.entries) : rBatch.r S w [.int .u64 x.epoch, .int .u64 x.base, v] x :=
 ⟨[_], [_, _], rfl, ⟨rfl, u64_wf h0⟩, [_], [_], rfl, ⟨rfl, u64_wf h1⟩, h⟩
theorem u64_at {xs : List Int} {a : Option Addr} {n c : Nat} (h : rU64s.r S w [.slice a n c] xs) {i : Nat} (hi : i < xs.length) : ∃ b off, a = some ⟨b, off, none⟩ ∧ S b ∧ w.cell? ⟨b, off + i, none⟩ = some (.int .u64 xs[i]) ∧ 0 ≤ xs[i] ∧ xs[i] ≤ 18446744073709551615 := by
 obtain ⟨b, off, e, hS, cs, _, hc, rfl, hw⟩ := sl_at h hi
 have := hc 0 _ rfl
 rw [Nat.mul_one, Nat.add_zero] at this
 exact ⟨b, off, e, hS, this, bounds_u64 hw⟩
theorem byte_at {xs : List UInt8} {a : Option Addr} {n c : Nat} (h : rBytes.r S w [.slice a n c] xs) {i : Nat} (hi : i < xs.length) : ∃ b off, a = some ⟨b, off, none⟩ ∧ S b ∧ w.cell? ⟨b, off + i, none⟩ = some (.int .u8 (xs[i].toNat : Int)) := by
 obtain ⟨b, off, e, hS, cs, _, hc, rfl⟩ := sl_at h hi
 have := hc 0 _ rfl
 rw [Nat.mul_one, Nat.add_zero] at this
 exact ⟨b, off, e, hS, this⟩
theorem link_at {xs : List Link} {a : Option Addr} {n c : Nat} (h : rLinks.r S w [.slice a n c] xs) {i : Nat} (hi : i < xs.length) : ∃ b off, a = some ⟨b, off, none⟩ ∧ S b ∧ ∃ a' c', w.cell? ⟨b, off + i * 2, none⟩ = some (.int .u64 xs[i].stream) ∧ w.cell? ⟨b, off + i * 2 + 1, none⟩ = some (.slice a' xs[i].backs.length c') ∧
  (0 ≤ xs[i].stream ∧ xs[i].stream ≤ 18446744073709551615) ∧ rU64s.r S w [.slice a' xs[i].backs.length c'] xs[i].backs := by
 obtain ⟨b, off, e, hS, cs, _, hc, hA⟩ := sl_at h hi
 obtain ⟨a', c', rfl, h1, h2⟩ := link_cells hA
 exact ⟨b, off, e, hS, a', c', hc 0 _ rfl, hc 1 _ rfl, h1, h2⟩
theorem entry_at {xs : List Entry} {a : Option Addr} {n c : Nat} (h : rEntries.r S w [.slice a n c] xs) {i : Nat} (hi : i < xs.length) : ∃ b off, a = some ⟨b, off, none⟩ ∧ S b ∧ ∃ a1 c1 a2 c2, w.cell? ⟨b, off + i * 2, none⟩ = some (.slice a1 xs[i].links.length c1) ∧ w.cell? ⟨b, off + i * 2 + 1, none⟩ = some (.slice a2 xs[i].data.length c2) ∧
  rLinks.r S w [.slice a1 xs[i].links.length c1] xs[i].links ∧ rBytes.r S w [.slice a2 xs[i].data.length c2] xs[i].data := by
 obtain ⟨b, off, e, hS, cs, _, hc, hA⟩ := sl_at h hi
 obtain ⟨a1, c1, a2, c2, rfl, h1, h2⟩ := entry_cells hA
 exact ⟨b, off, e, hS, a1, c1, a2, c2, hc 0 _ rfl, hc 1 _ rfl, h1, h2⟩
theorem batch_at {xs : List Batch} {a : Option Addr} {n c : Nat} (h : rBatches.r S w [.slice a n c] xs) {i : Nat} (hi : i < xs.length) : ∃ b off, a = some ⟨b, off, none⟩ ∧ S b ∧ ∃ a' c', w.cell? ⟨b, off + i * 3, none⟩ = some (.int .u64 xs[i].epoch) ∧ w.cell? ⟨b, off + i * 3 + 1, none⟩ = some (.int .u64 xs[i].base) ∧ w.cell? ⟨b, off + i * 3 + 2, none⟩ = some (.slice a' xs[i].entries.length c') ∧
  (0 ≤ xs[i].epoch ∧ xs[i].epoch ≤ 18446744073709551615) ∧ (0 ≤ xs[i].base ∧ xs[i].base ≤ 18446744073709551615) ∧ rEntries.r S w [.slice a' xs[i].entries.length c'] xs[i].entries := by
 obtain ⟨b, off, e, hS, cs, _, hc, hA⟩ := sl_at h hi
 obtain ⟨a', c', rfl, h1, h2, h3⟩ := batch_cells hA
 exact ⟨b, off, e, hS, a', c', hc 0 _ rfl, hc 1 _ rfl, hc 2 _ rfl, h1, h2, h3⟩
end
theorem lift {α : Type} {A : Rp α} {w w' : World} {cs : List Value} {x : α} (h : A.r (· < w.heap.size) w cs x) (hb : Below w.heap.size w w') : A.r (· < w'.heap.size) w' cs x :=
 A.mono (A.below h hb) fun b hlt => Nat.lt_of_lt_of_le hlt hb.size
def epR (e : Int) : Bool := decide (1 ≤ e ∧ e < 4611686018427387904)
def poR (e : Int) : Bool := decide (e < 4611686018427387904)
def fallsB : Int → List Int → Bool
 | _, [] => true
 | b, x :: l => decide (x < b) && fallsB x l
def risesB : List Int → Bool
 | [] => true
 | [_] => true
 | x :: y :: l => decide (x < y) && risesB (y :: l)
def linkR (pos : Int) (x : Link) : Bool := decide (x.backs.length ≤ 4) && fallsB pos x.backs
def linksR (pos : Int) (l : List Link) : Bool := decide (l.length ≤ 16) && (risesB (l.map Link.stream) && l.all (linkR pos))
def entryR (pos : Int) (e : Entry) : Bool := linksR pos e.links && decide (e.data.length ≤ 1048576)
def total (l : List Entry) : Nat := (l.map fun e => e.data.length).sum
def entriesR : Int → List Entry → Bool
 | _, [] => true
 | p, e :: l => entryR p e && entriesR (p + 1) l
def fitsR (base : Int) (n : Nat) : Bool := decide (1 ≤ n ∧ n ≤ 16 ∧ base < 4611686018427387904 ∧ base + n ≤ 4611686018427387904)
def batchR (b : Batch) : Bool := epR b.epoch && (fitsR b.base b.entries.length && (decide (total b.entries ≤ 1048576) && entriesR b.base b.entries))
end Go.Bs
namespace Go.Proofs.YtkipiefcnjfdjaaGreat
open Go.RowKit Go.Bs
set_option linter.unusedVariables false
set_option linter.unusedSimpArgs false
set_option maxHeartbeats 400000 in
theorem epoch_right (e : Int) (w : World) : Calls Tryz.prog 78 #[.int .u64 e] w fun r w' => r = .returned (.bool (epR e)) ∧ w = w' := by
 by_cases h1 : 1 ≤ e
 ·by_cases h2 : e < 4611686018427387904
  ·have : epR e = true := by simp [epR, h1, h2]
   rw [this]
   have d1 : decide (1 ≤ e) = true := by simpa using h1
   have d2 : decide (e < 4611686018427387904) = true := by simpa using h2
   clear this h1 h2
   go_enter Tryz.func78, Tryz.ntmps78
   go_wp2
   go_ret
   exact ⟨rfl, rfl⟩
  ·have : epR e = false := by simp [epR, h2]
   rw [this]
   have d1 : decide (1 ≤ e) = true := by simpa using h1
   have d2 : decide (e < 4611686018427387904) = false := by simpa using h2
   clear this h1 h2
   go_enter Tryz.func78, Tryz.ntmps78
   go_wp2
   go_ret
   exact ⟨rfl, rfl⟩
 ·have : epR e = false := by simp [epR, h1]
  rw [this]
  have d1 : decide (1 ≤ e) = false := by simpa using h1
  clear this h1
  go_enter Tryz.func78, Tryz.ntmps78
  go_wp2
  go_ret
  exact ⟨rfl, rfl⟩
set_option maxHeartbeats 400000 in
theorem epoch_pos (e : Int) (w : World) : Calls Tryz.prog 132 #[.int .u64 e] w fun r w' => r = .returned (.bool (poR e)) ∧ w = w' := by
 go_enter Tryz.func132, Tryz.ntmps132
 go_wp2
 go_ret
 exact ⟨rfl, rfl⟩
set_option maxHeartbeats 400000 in
theorem ref17_right (e : Int) (h0 : 0 ≤ e) (w : World) : Calls Tryz.prog 82 #[.int .u64 e] w fun r w' => r = .returned (.bool (epR e)) ∧ w = w' := by
 by_cases h1 : 0 < e
 ·by_cases h2 : e ≤ 4611686018427387903
  ·have : epR e = true := by simp [epR]; omega
   rw [this]
   have d1 : decide (0 < e) = true := by simpa using h1
   have d2 : decide (e ≤ 4611686018427387903) = true := by simpa using h2
   clear this h1 h2
   go_enter Tryz.func82, Tryz.ntmps82
   go_wp2
   go_ret
   exact ⟨rfl, rfl⟩
  ·have : epR e = false := by simp [epR]; omega
   rw [this]
   have d1 : decide (0 < e) = true := by simpa using h1
   have d2 : decide (e ≤ 4611686018427387903) = false := by simpa using h2
   clear this h1 h2
   go_enter Tryz.func82, Tryz.ntmps82
   go_wp2
   go_ret
   exact ⟨rfl, rfl⟩
 ·have : epR e = false := by simp [epR]; omega
  rw [this]
  have d1 : decide (0 < e) = false := by simpa using h1
  clear this h1
  go_enter Tryz.func82, Tryz.ntmps82
  go_wp2
  go_ret
  exact ⟨rfl, rfl⟩
set_option maxHeartbeats 400000 in
theorem ref17_pos (e : Int) (w : World) : Calls Tryz.prog 139 #[.int .u64 e] w fun r w' => r = .returned (.bool (poR e)) ∧ w = w' := by
 have : poR e = decide (e ≤ 4611686018427387903) := by simp only [poR, decide_eq_decide]; omega
 rw [this]
 clear this
 go_enter Tryz.func139, Tryz.ntmps139
 go_wp2
 go_ret
 exact ⟨rfl, rfl⟩
theorem infoU : (Tryz.prog.info? 22).map (fun i => (i.zero, i.size, i.bytes)) = some (some (.int .u64 0), 1, 8) := by kernel_rfl
def stepsL : Int → List Int → List Int
 | _, [] => []
 | b, x :: l => (b - x - 1) :: stepsL x l
def ahead (b : Int) (l : List Int) (k : Nat) : Int := if k = 0 then b else l.getD (k - 1) 0
theorem ahead_zero (b : Int) (l : List Int) : ahead b l 0 = b := rfl
theorem ahead_succ (b : Int) (l : List Int) (k : Nat) (h : k < l.length) : ahead b l (k + 1) = l[k] := by
 unfold ahead; rw [if_neg (by omega)]; simp [h]
def StepsRet (below : Int) (l : List Int) (w : World) (e : Ending) (w' : World) : Prop :=
 ∃ v, e = .returned (.tuple #[v, .bool (fallsB below l)]) ∧ rU64s.r (· < w'.heap.size) w' [v] (if fallsB below l then stepsL below l else []) ∧ Below w.heap.size w w'
theorem own_u64s {w : World} {base : Nat} {e : TypeId} {v : Value} {xs : List Int} (h : w.ownsRow base e 1 v xs.length (xs.map (Value.int .u64))) (hb : ∀ x ∈ xs, 0 ≤ x ∧ x ≤ 18446744073709551615) (hm : xs.length ≤ maxLen) : rU64s.r (· < w.heap.size) w [v] xs := by
 rcases h.2 with ⟨rfl, h0⟩ | ⟨g, cap, cur, rfl, hbg, hg, hn, hc, hcur, hx⟩
 ·have : xs = [] := List.eq_nil_of_length_eq_zero h0
  subst this
  exact rSl_mk rfl (Nat.le_refl _) (Nat.zero_le _) (.inl rfl)
 ·refine rSl_mk rfl hn hc (.inr ⟨g, 0, rfl, Blk.lt hg, fun i x hi => ⟨[.int .u64 x], rfl, fun j v hj => ?_, rfl, u64_wf (hb x (List.mem_of_getElem? hi))⟩⟩)
  have hj0 : j = 0 := by
   rcases j with _ | j
   ·rfl
   ·simp at hj
  subst hj0
  simp at hj
  subst hj
  have hi' : i < xs.length := (List.getElem?_eq_some_iff.1 hi).1
  rw [Nat.zero_add, Nat.mul_one, Nat.add_zero, Blk.cell hg i]
  have e1 : cur[i]? = (cur.toList.take (xs.length * 1))[i]? := by
   rw [List.getElem?_take, if_pos (by omega)]; simp
  rw [e1, hx, List.getElem?_map, hi]; rfl
set_option maxHeartbeats 1600000 in
theorem steps_any (below : Int) (l : List Int) (a : Option Addr) (n c : Nat) (w : World) (hb0 : 0 ≤ below ∧ below ≤ 18446744073709551615) (hl : rU64s.r (· < w.heap.size) w [.slice a n c] l) (hlen : l.length ≤ 1000000000000) :
  Calls Tryz.prog 244 #[.int .u64 below, .slice a n c] w (StepsRet below l w) := by
 obtain ⟨rfl, hm, _, _⟩ := sl_len hl
 obtain ⟨i0, hi, hz0, hz1, hz2⟩ := info_parts infoU
 have HL := hid hl; clear hl
 go_enter Tryz.func244, Tryz.ntmps244
 go_wp2
 go_loopw [0, 6, 11] (fun b v i wr => ∃ k : Nat, k ≤ l.length ∧ i = .int .i64 k ∧ b = .int .u64 (ahead below l k) ∧ 0 ≤ ahead below l k ∧ ahead below l k ≤ 18446744073709551615 ∧ Hid (fallsB below l = fallsB (ahead below l k) (l.drop k)) ∧
   (∃ xs : List Int, Hid (xs.length = k ∧ (∀ x ∈ xs, 0 ≤ x ∧ x ≤ 18446744073709551615) ∧ stepsL below l = xs ++ stepsL (ahead below l k) (l.drop k)) ∧ wr.ownsRow w.heap.size 22 1 v k (xs.map (Value.int .u64))) ∧ Below w.heap.size w wr) (fun _ _ i _ => l.length - (intOf i).toNat)
 case atStart => exact ⟨0, Nat.zero_le _, rfl, rfl, hb0.1, hb0.2, hid rfl, ⟨[], hid ⟨rfl, by simp, rfl⟩, ⟨rfl, .inl ⟨rfl, rfl⟩⟩⟩, Below.refl _ _⟩
 case round =>
  obtain ⟨k, hk, rfl, rfl, ha0, ha1, hf, ⟨xs, hxs, hown⟩, hb⟩ := hrel
  by_cases hlt : k < l.length
  ·obtain ⟨b, o, hA, hbb, hc, hx0, hx1⟩ := u64_at HL.out hlt
   subst hA
   have q := (hb.cell (p := ⟨b, o + k, none⟩) hbb).trans hc
   clear hc
   have hd := hid (List.drop_eq_getElem_cons hlt)
   have hsu := hid (ahead_succ below l k hlt)
   generalize hlk : l[k] = x at *
   clear hlk
   generalize ahead below l k = p at *
   by_cases hge : p ≤ x
   ·have hff : Hid (fallsB below l = false) := by
     rw [hf.out, hd.out]; exact hid (by simp [fallsB]; omega)
    go_wp2
    go_ret2
    exact ⟨.slice none 0 0, by rw [hff.out]; rfl, by rw [hff.out]; exact rSl_mk rfl (Nat.le_refl _) (Nat.zero_le _) (.inl rfl), hb⟩
   ·have hbs := hb.size
    have w1 : 0 ≤ p - x := by omega
    have w2 : 0 ≤ p - x - 1 := by omega
    go_wp2_with (at_builtin; refine wpList_append_lies _ rfl _ _ _ rfl w.heap.size 22 i0 (.int .u64 0) 1 8 Tryz.underlying207 hi hz0 hz1 hz2 rfl (by decide) _ k _ rfl (hown.alloc _) ⟨wr.heap.size, 0, none⟩ 1 1 [.int .u64 (p - x - 1)] rfl rfl (World.news_of_block (Blk.new _ _ _)) (by simp [Value.oneCell']) (by decide) (by simp only [maxLen]; omega) (by omega) (by simp; omega) _ rfl ?_; intro g1 cap1 w1' hown1 hgrow1 hat1 hlt1)
    go_roundw
    case rel =>
     refine ⟨k + 1, by omega, by go_num, by rw [hsu.out], by rw [hsu.out]; exact hx0, by rw [hsu.out]; exact hx1, ?_, ⟨xs ++ [p - x - 1], ?_, ?_⟩, ?_⟩
     ·rw [hf.out, hd.out, hsu.out]
      exact hid (by simp only [fallsB]; rw [decide_eq_true (by omega)]; rfl)
     ·refine hid ⟨by simp [hxs.out.1], ?_, ?_⟩
      ·intro y hy
       rw [List.mem_append, List.mem_singleton] at hy
       rcases hy with hy | rfl
       ·exact hxs.out.2.1 y hy
       ·omega
      ·rw [hsu.out, hxs.out.2.2, hd.out]
       simp [stepsL]
     ·rw [List.map_append]; exact hown1
     ·refine Below.grown ?_ hgrow1 (by simp; omega) (fun g e => (hown.lt g e).1)
      exact hb.alloc hbs _
    case measure => simp [intOf]; omega
  ·obtain rfl : k = l.length := by omega
   have hff : Hid (fallsB below l = true) := by
    rw [hf.out, List.drop_length]; exact hid rfl
   have hxl := hxs.out.1
   have hst : Hid (stepsL below l = xs) := hid (by rw [hxs.out.2.2, List.drop_length]; simp [stepsL])
   have hv : rU64s.r (· < wr.heap.size) wr [u6] xs := own_u64s (by rw [hxl]; exact hown) hxs.out.2.1 (by unfold maxLen; omega)
   have HV := hid hv; clear hv hxl
   go_wp2
   go_ret2
   exact ⟨u6, by rw [hff.out]; rfl, by rw [hff.out, if_pos rfl, hst.out]; exact HV.out, hb⟩
set_option maxHeartbeats 400000 in
theorem delta_falls (below : Int) (l : List Int) (a : Option Addr) (n c : Nat) (w : World) (hb0 : 0 ≤ below ∧ below ≤ 18446744073709551615) (hl : rU64s.r (· < w.heap.size) w [.slice a n c] l) (hlen : l.length ≤ 1000000000000) :
  Calls Tryz.prog 200 #[.int .u64 below, .slice a n c] w fun r w' => r = .returned (.bool (fallsB below l)) ∧ Below w.heap.size w w' := by
 have HL := hid hl; clear hl
 go_enter Tryz.func200, Tryz.ntmps200
 go_wp2_with fail
 refine (steps_any below l a n c _ hb0 HL.out hlen).mono ?_
 rintro e w1 ⟨v, rfl, _, hb1⟩
 go_wp2
 go_ret
 exact ⟨rfl, hb1⟩
set_option maxHeartbeats 1600000 in
theorem ref22_falls (below : Int) (l : List Int) (a : Option Addr) (n c : Nat) (w : World) (hl : rU64s.r (· < w.heap.size) w [.slice a n c] l) :
  Calls Tryz.prog 202 #[.int .u64 below, .slice a n c] w fun r w' => r = .returned (.bool (fallsB below l)) ∧ Below w.heap.size w w' := by
 obtain ⟨rfl, hm, _, _⟩ := sl_len hl
 have HL := hid hl; clear hl
 go_enter Tryz.func202, Tryz.ntmps202
 go_wp2
 go_loopw [5] (fun i wr => ∃ k : Nat, k ≤ l.length ∧ i = .int .i64 k ∧ Hid (fallsB below l = fallsB (ahead below l k) (l.drop k)) ∧ Below w.heap.size w wr) (fun i _ => l.length - (intOf i).toNat)
 case atStart => exact ⟨0, Nat.zero_le _, rfl, hid rfl, Below.refl _ _⟩
 case round =>
  obtain ⟨k, hk, rfl, hf, hb⟩ := hrel
  by_cases hlt : k < l.length
  ·obtain ⟨b, o, hA, hbb, hc, hx0, hx1⟩ := u64_at HL.out hlt
   have hd := hid (List.drop_eq_getElem_cons hlt)
   have hsu := hid (ahead_succ below l k hlt)
   have hlt' : (k : Int) < (l.length : Int) := by omega
   rcases k with _ | m
   ·subst hA
    have X0 := fun s : Later wr => s.cell ((hb.cell (p := ⟨b, o + 0, none⟩) hbb).trans hc)
    simp only [Nat.add_zero] at X0
    clear hc
    generalize hlk : l[0] = x at *
    clear hlk
    rw [ahead_zero] at hf
    by_cases hge : below ≤ x
    ·have d1 : decide (below ≤ x) = true := by simpa using hge
     have hff : Hid (fallsB below l = false) := by
      rw [hf.out, hd.out]; exact hid (by simp [fallsB]; omega)
     clear hge
     go_wp2_with fail
     refine wp_region_later (by kernel_rfl) (by kernel_rfl) ?_
     repeat (go_big_quiet_step (fail))
     refine wpQuiet_nil ?_
     rintro W5 ⟨⟨W5', hb5⟩, rfl⟩
     go_wp2
     go_ret
     exact ⟨by rw [hff.out]; rfl, below_then hb5 hb⟩
    ·have d1 : decide (below ≤ x) = false := by simpa using hge
     clear hge
     have hlt2 : x < below := by simpa using d1
     go_wp2_with fail
     refine wp_region_later (by kernel_rfl) (by kernel_rfl) ?_
     repeat (go_big_quiet_step (fail))
     refine wpQuiet_nil ?_
     rintro W5 ⟨⟨W5', hb5⟩, rfl⟩
     go_wp2
     go_roundw
     case rel =>
      refine ⟨1, by omega, rfl, ?_, below_then hb5 hb⟩
      rw [hsu.out, hf.out, hd.out]
      exact hid (by simp only [fallsB]; rw [decide_eq_true hlt2]; rfl)
     case measure => simp [intOf]; omega
   ·obtain ⟨b', o', hA', hbb', hc', _, _⟩ := u64_at HL.out (show m < l.length by omega)
    have hp := hid (ahead_succ below l m (by omega))
    subst hA
    obtain ⟨rfl, rfl⟩ : b' = b ∧ o' = o := by simp at hA'; exact ⟨hA'.1.symm, hA'.2.symm⟩
    clear hA'
    have X0 := fun s : Later wr => s.cell ((hb.cell (p := ⟨b', o' + (m + 1), none⟩) hbb).trans hc)
    have X1 := fun s : Later wr => s.cell ((hb.cell (p := ⟨b', o' + m, none⟩) hbb).trans hc')
    clear hc hc'
    generalize hlk : l[m + 1] = x at *
    generalize hlm : l[m] = y at *
    clear hlk hlm
    rw [hp.out] at hf
    rw [show ((m + 1 : Nat) : Int) = (m : Int) + 1 from by omega]
    have k0 : ((m : Int) + 1 == 0) = false := by simp; omega
    have k1 : (0 : Int) < (m : Int) + 1 := by omega
    have k2 : (0 : Int) ≤ (m : Int) + 1 - 1 := by omega
    have k3 : (m : Int) + 1 < (l.length : Int) := by omega
    by_cases hge : y ≤ x
    ·have d1 : decide (y ≤ x) = true := by simpa using hge
     have hff : Hid (fallsB below l = false) := by
      rw [hf.out, hd.out]; exact hid (by simp [fallsB]; omega)
     clear hge
     go_wp2_with fail
     refine wp_region_later (by kernel_rfl) (by kernel_rfl) ?_
     repeat (go_big_quiet_step (fail))
     refine wpQuiet_nil ?_
     rintro W5 ⟨⟨W5', hb5⟩, rfl⟩
     go_wp2
     go_ret
     exact ⟨by rw [hff.out]; rfl, below_then hb5 hb⟩
    ·have d1 : decide (y ≤ x) = false := by simpa using hge
     clear hge
     have hlt2 : x < y := by simpa using d1
     go_wp2_with fail
     refine wp_region_later (by kernel_rfl) (by kernel_rfl) ?_
     repeat (go_big_quiet_step (fail))
     refine wpQuiet_nil ?_
     rintro W5 ⟨⟨W5', hb5⟩, rfl⟩
     go_wp2
     go_roundw
     case rel =>
      refine ⟨m + 1 + 1, by omega, by go_num, ?_, below_then hb5 hb⟩
      rw [hsu.out, hf.out, hd.out]
      exact hid (by simp only [fallsB]; rw [decide_eq_true hlt2]; rfl)
     case measure => simp [intOf]; omega
  ·obtain rfl : k = l.length := by omega
   have hff : Hid (fallsB below l = true) := by
    rw [hf.out, List.drop_length]; exact hid rfl
   go_wp2
   go_ret
   exact ⟨by rw [hff.out]; rfl, hb⟩
end Go.Proofs.YtkipiefcnjfdjaaGreat
namespace Go.Bs
open Go.RowKit
deriving instance DecidableEq for Link, Entry, Batch, Seg
theorem bytes_str {P : Program} {S : Nat → Prop} {w : World} {a : Option Addr} {n c : Nat} {l : List UInt8} (src dst e : TypeId) (hs : P.underlying src = some (.slice e)) (he : P.underlying e = some (.int .u8)) (hd : P.underlying dst = some .string)
  (h : rBytes.r S w [.slice a n c] l) : (convert src dst (.slice a l.length c)).run P w = .ok (.string ⟨l.toArray⟩) w := by
 obtain ⟨rfl, _, _, _⟩ := sl_len h
 rcases a with _ | ad
 ·have h0 : l = [] := by
   rcases l with _ | ⟨x, l⟩
   ·rfl
   ·obtain ⟨b, off, e, _⟩ := byte_at h (i := 0) (by simp)
    cases e
  subst h0
  exact run_convert_bytes_nil w src e hs he _ _ dst hd
 ·refine run_convert_bytes_back w src dst e ad c l hs he hd fun j hj => ?_
  obtain ⟨b, off, e, _, hc⟩ := byte_at h hj
  simp at e
  subst e
  rw [← hc]
  congr 1
  unfold Addr.add
  split
  ·rename_i h0; subst h0; rfl
  ·rfl
end Go.Bs
namespace Go.Proofs.YtkipiefcnjfdjaaGreat
open Go.RowKit Go.Bs
set_option linter.unusedVariables false
set_option linter.unusedSimpArgs false
set_option maxHeartbeats 400000 in
theorem same_bytes (x y : List UInt8) (a a' : Option Addr) (n c n' c' : Nat) (w : World) (hx : rBytes.r (· < w.heap.size) w [.slice a n c] x) (hy : rBytes.r (· < w.heap.size) w [.slice a' n' c'] y) :
  Calls Tryz.prog 21 #[.slice a n c, .slice a' n' c'] w fun r w' => r = .returned (.bool (decide (x = y))) ∧ w = w' := by
 obtain ⟨rfl, _, _, _⟩ := sl_len hx
 obtain ⟨rfl, _, _, _⟩ := sl_len hy
 have h1 := bytes_str (P := Tryz.prog) 28 9 5 Tryz.underlying28 Tryz.underlying5 Tryz.underlying9 hx
 have h2 := bytes_str (P := Tryz.prog) 28 9 5 Tryz.underlying28 Tryz.underlying5 Tryz.underlying9 hy
 have he : (x == y) = decide (x = y) := by
  by_cases h : x = y
  ·simp [h]
  ·simp [h]
 have HE := hid he; clear he hx hy
 go_enter Tryz.func21, Tryz.ntmps21
 go_wp2
 go_ret
 refine ⟨?_, rfl⟩
 rw [← HE.out]
 simp [go_sem]
theorem drop_eq_step {α : Type} [DecidableEq α] (x y : List α) (k : Nat) (hx : k < x.length) (hy : k < y.length) : decide (x.drop k = y.drop k) = (decide (x[k] = y[k]) && decide (x.drop (k + 1) = y.drop (k + 1))) := by
 rw [List.drop_eq_getElem_cons hx, List.drop_eq_getElem_cons hy, Bool.eq_iff_iff, decide_eq_true_iff, Bool.and_eq_true, decide_eq_true_iff, decide_eq_true_iff, List.cons.injEq]
set_option maxHeartbeats 1600000 in
theorem same_u64s (x y : List Int) (a a' : Option Addr) (n c n' c' : Nat) (w : World) (hx : rU64s.r (· < w.heap.size) w [.slice a n c] x) (hy : rU64s.r (· < w.heap.size) w [.slice a' n' c'] y) :
  Calls Tryz.prog 221 #[.slice a n c, .slice a' n' c'] w fun r w' => r = .returned (.bool (decide (x = y))) ∧ Below w.heap.size w w' := by
 obtain ⟨rfl, hm, _, _⟩ := sl_len hx
 obtain ⟨rfl, hm', _, _⟩ := sl_len hy
 by_cases hl : x.length = y.length
 ·have HX := hid hx; clear hx
  have HY := hid hy; clear hy
  have HL := hid hl
  have e1 : ((x.length : Int) != (y.length : Int)) = false := by simp [hl]
  clear hl
  go_enter Tryz.func221, Tryz.ntmps221
  go_wp2
  go_loopw [5] (fun i wr => ∃ k : Nat, k ≤ x.length ∧ i = .int .i64 k ∧ Hid (decide (x = y) = decide (x.drop k = y.drop k)) ∧ Below w.heap.size w wr) (fun i _ => x.length - (intOf i).toNat)
  case atStart => exact ⟨0, Nat.zero_le _, rfl, hid rfl, Below.refl _ _⟩
  case round =>
   obtain ⟨k, hk, rfl, hf, hb⟩ := hrel
   by_cases hlt : k < x.length
   ·have hlt' : k < y.length := by rw [← HL.out]; exact hlt
    obtain ⟨b, o, hA, hbb, hc, _, _⟩ := u64_at HX.out hlt
    obtain ⟨b', o', hA', hbb', hc', _, _⟩ := u64_at HY.out hlt'
    have hst := hid (drop_eq_step x y k hlt hlt')
    subst hA hA'
    have X0 := fun s : Later wr => s.cell ((hb.cell (p := ⟨b, o + k, none⟩) hbb).trans hc)
    have X1 := fun s : Later wr => s.cell ((hb.cell (p := ⟨b', o' + k, none⟩) hbb').trans hc')
    clear hc hc'
    generalize hlk : x[k] = u at *
    generalize hlm : y[k] = v at *
    clear hlk hlm
    have i0 : (0 : Int) ≤ (k : Int) := by omega
    have i1 : (k : Int) < (x.length : Int) := by omega
    have i2 : (k : Int) < (y.length : Int) := by omega
    by_cases huv : u = v
    ·have d1 : (u != v) = false := by simp [huv]
     have hst' : Hid (decide (x.drop k = y.drop k) = decide (x.drop (k + 1) = y.drop (k + 1))) := hid (by rw [hst.out]; simp [huv])
     clear huv
     go_wp2_with fail
     refine wp_region_later (by kernel_rfl) (by kernel_rfl) ?_
     repeat (go_big_quiet_step (fail))
     refine wpQuiet_nil ?_
     rintro W5 ⟨⟨W5', hb5⟩, rfl⟩
     go_wp2
     go_roundw
     case rel => exact ⟨k + 1, by omega, by go_num, hid (by rw [hf.out, hst'.out]), below_then hb5 hb⟩
     case measure => simp [intOf]; omega
    ·have d1 : (u != v) = true := by simp [huv]
     have hff : Hid (decide (x = y) = false) := hid (by rw [hf.out, hst.out]; simp [huv])
     clear huv
     go_wp2_with fail
     refine wp_region_later (by kernel_rfl) (by kernel_rfl) ?_
     repeat (go_big_quiet_step (fail))
     refine wpQuiet_nil ?_
     rintro W5 ⟨⟨W5', hb5⟩, rfl⟩
     go_wp2
     go_ret
     exact ⟨by rw [hff.out]; rfl, below_then hb5 hb⟩
   ·obtain rfl : k = x.length := by omega
    have hff : Hid (decide (x = y) = true) := hid (by rw [hf.out, List.drop_length, List.drop_of_length_le (by rw [HL.out]; exact Nat.le_refl _)]; rfl)
    go_wp2
    go_ret
    exact ⟨by rw [hff.out]; rfl, hb⟩
 ·have hff : Hid (decide (x = y) = false) := hid (by simp; rintro rfl; exact hl rfl)
  have e1 : ((x.length : Int) != (y.length : Int)) = true := by simp; omega
  clear hl hx hy
  go_enter Tryz.func221, Tryz.ntmps221
  go_wp2
  go_ret
  exact ⟨by rw [hff.out]; rfl, Below.refl _ _⟩
end Go.Proofs.YtkipiefcnjfdjaaGreat
namespace Go.Proofs.YtkipiefcnjfdjaaGreat
open Go.RowKit Go.Bs
set_option linter.unusedVariables false
set_option linter.unusedSimpArgs false
def risesAt (l : List Int) (k : Nat) : Bool := if k = 0 then risesB l else risesB (l.drop (k - 1))
theorem risesAt_one (l : List Int) : risesAt l 1 = risesAt l 0 := by simp [risesAt]
theorem risesAt_step (l : List Int) (m : Nat) (h : m + 1 < l.length) : risesAt l (m + 1) = (decide (l[m] < l[m + 1]) && risesAt l (m + 2)) := by
 have e1 : l.drop m = l[m] :: l[m + 1] :: l.drop (m + 2) := by
  rw [List.drop_eq_getElem_cons (show m < l.length by omega), List.drop_eq_getElem_cons h]
 have e2 : l.drop (m + 1) = l[m + 1] :: l.drop (m + 2) := List.drop_eq_getElem_cons h
 show risesB (l.drop m) = (_ && risesB (l.drop (m + 1)))
 rw [e1, e2]; rfl
theorem risesAt_end (l : List Int) : risesAt l l.length = true := by
 unfold risesAt
 split
 ·rename_i h; rw [List.eq_nil_of_length_eq_zero h]; rfl
 ·rename_i h
  have e : l.drop (l.length - 1) = [l[l.length - 1]] := by
   rw [List.drop_eq_getElem_cons (show l.length - 1 < l.length by omega), List.drop_of_length_le (by omega)]
  rw [e]; rfl
set_option maxHeartbeats 400000 in
theorem link_stream (s : Int) (v : Value) (h1 : v.oneCell' = true) (w : World) : Calls Tryz.prog 198 #[.agg #[.int .u64 s, v]] w fun r w' => r = .returned (.int .u64 s) ∧ Below w.heap.size w w' := by
 go_enter Tryz.func198, Tryz.ntmps198
 go_wp2
 go_ret
 exact ⟨rfl, by (repeat first | exact zR | assumption | apply zA | apply zS | apply zD | apply zN | refine zT (by assumption) ?_ | omega | simp <;> omega)⟩
set_option maxHeartbeats 1600000 in
theorem link_rises (l : List Link) (a : Option Addr) (n c : Nat) (w : World) (hl : rLinks.r (· < w.heap.size) w [.slice a n c] l) :
  Calls Tryz.prog 197 #[.slice a n c, .func (.func 198) #[] #[]] w fun r w' => r = .returned (.bool (risesB (l.map Link.stream))) ∧ Below w.heap.size w w' := by
 obtain ⟨rfl, hm, _, _⟩ := sl_len hl
 have HL := hid hl; clear hl
 go_enter Tryz.func197, Tryz.ntmps197
 go_wp2
 go_loopw [8] (fun i wr => ∃ k : Nat, k ≤ l.length ∧ i = .int .i64 k ∧ Hid (risesB (l.map Link.stream) = risesAt (l.map Link.stream) k) ∧ Below w.heap.size w wr) (fun i _ => l.length - (intOf i).toNat)
 case atStart => exact ⟨0, Nat.zero_le _, rfl, hid rfl, Below.refl _ _⟩
 case round =>
  obtain ⟨k, hk, rfl, hf, hb⟩ := hrel
  by_cases hlt : k < l.length
  ·obtain ⟨b, o, hA, hbb, a1, c1, hc0, hc1, _, _⟩ := link_at HL.out hlt
   have hlt' : (k : Int) < (l.length : Int) := by omega
   rcases k with _ | m
   ·have h1 := hid (risesAt_one (l.map Link.stream))
    go_wp2_with fail
    refine wp_region_later (by kernel_rfl) (by kernel_rfl) ?_
    repeat (go_big_quiet_step (fail))
    refine wpQuiet_nil ?_
    rintro W5 ⟨⟨W5', hb5⟩, rfl⟩
    go_wp2
    go_roundw
    case rel => exact ⟨1, by omega, rfl, hid (by rw [hf.out, h1.out]), below_then hb5 hb⟩
    case measure => simp [intOf]; omega
   ·obtain ⟨b', o', hA', hbb', a2, c2, hd0, hd1, _, _⟩ := link_at HL.out (show m < l.length by omega)
    have hst := hid (risesAt_step (l.map Link.stream) m (by simpa using hlt))
    subst hA
    obtain ⟨rfl, rfl⟩ : b' = b ∧ o' = o := by simp at hA'; exact ⟨hA'.1.symm, hA'.2.symm⟩
    clear hA'
    have X0 := fun s : Later wr => s.cell ((hb.cell (p := ⟨b', o' + (m + 1) * 2, none⟩) hbb).trans hc0)
    have X1 := fun s : Later wr => s.cell ((hb.cell (p := ⟨b', o' + (m + 1) * 2 + 1, none⟩) hbb).trans hc1)
    have Y0 := fun s : Later wr => s.cell ((hb.cell (p := ⟨b', o' + m * 2, none⟩) hbb).trans hd0)
    have Y1 := fun s : Later wr => s.cell ((hb.cell (p := ⟨b', o' + m * 2 + 1, none⟩) hbb).trans hd1)
    clear hc0 hc1 hd0 hd1
    simp only [List.getElem_map] at hst
    generalize l[m + 1].stream = x at *
    generalize l[m].stream = y at *
    generalize l[m + 1].backs.length = n1 at *
    generalize l[m].backs.length = n2 at *
    rw [show ((m + 1 : Nat) : Int) = (m : Int) + 1 from by omega]
    have k1 : (0 : Int) < (m : Int) + 1 := by omega
    have k2 : (0 : Int) ≤ (m : Int) + 1 - 1 := by omega
    have k3 : (m : Int) + 1 < (l.length : Int) := by omega
    have k4 : (m : Int) < (l.length : Int) := by omega
    by_cases hge : x ≤ y
    ·have d1 : decide (x ≤ y) = true := by simpa using hge
     have hff : Hid (risesB (l.map Link.stream) = false) := hid (by rw [hf.out, hst.out]; simp; omega)
     clear hge
     go_wp2_with fail
     refine wp_region_later (by kernel_rfl) (by kernel_rfl) ?_
     repeat (go_big_quiet_step (((go_at_call 198; exact later_of (link_stream _ _ rfl _)))))
     refine wpQuiet_nil ?_
     rintro W5 ⟨⟨W5', hb5⟩, rfl⟩
     go_wp2
     go_ret
     exact ⟨by rw [hff.out]; rfl, below_then hb5 hb⟩
    ·have d1 : decide (x ≤ y) = false := by simpa using hge
     have hst' : Hid (risesAt (l.map Link.stream) (m + 1) = risesAt (l.map Link.stream) (m + 2)) := hid (by rw [hst.out, decide_eq_true (by omega)]; rfl)
     clear hge
     go_wp2_with fail
     refine wp_region_later (by kernel_rfl) (by kernel_rfl) ?_
     repeat (go_big_quiet_step (((go_at_call 198; exact later_of (link_stream _ _ rfl _)))))
     refine wpQuiet_nil ?_
     rintro W5 ⟨⟨W5', hb5⟩, rfl⟩
     go_wp2
     go_roundw
     case rel => exact ⟨m + 2, by omega, by go_num, hid (by rw [hf.out, hst'.out]), below_then hb5 hb⟩
     case measure => simp [intOf]; omega
  ·obtain rfl : k = l.length := by omega
   have hff : Hid (risesB (l.map Link.stream) = true) := hid (by
    have := risesAt_end (l.map Link.stream)
    rw [List.length_map] at this
    rw [hf.out, this])
   go_wp2
   go_ret
   exact ⟨by rw [hff.out]; rfl, hb⟩
end Go.Proofs.YtkipiefcnjfdjaaGreat
namespace Go.Proofs.YtkipiefcnjfdjaaGreat
open Go.RowKit Go.Bs
set_option linter.unusedVariables false
set_option linter.unusedSimpArgs false
set_option maxHeartbeats 800000 in
theorem link_wrong (pos : Int) (x : Link) (a : Option Addr) (n c : Nat) (blk : Nat) (w : World) (hpos : 0 ≤ pos ∧ pos ≤ 18446744073709551615) (hx : rU64s.r (· < w.heap.size) w [.slice a n c] x.backs) (hlen : x.backs.length ≤ 1000000000000)
  (hc : w.cell? ⟨blk, 0, none⟩ = some (.int .u64 pos)) :
  Calls Tryz.prog 199 #[.agg #[.int .u64 x.stream, .slice a n c], .pointer (some ⟨blk, 0, none⟩)] w fun r w' => r = .returned (.bool (!linkR pos x)) ∧ Below w.heap.size w w' := by
 obtain ⟨rfl, hm, _, _⟩ := sl_len hx
 have hlt := World.block_lt_of_cell? w _ hc
 have X0 := (Later.mk _ ((Below.refl w.heap.size w).alloc (Nat.le_refl _) (.cells #[.int .u64 x.stream, .slice a x.backs.length c] 209))).cell hc
 by_cases h4 : 4 < x.backs.length
 ·have hff : linkR pos x = false := by simp [linkR]; omega
  rw [hff]
  clear hff hx hc
  go_enter Tryz.func199, Tryz.ntmps199
  go_wp2
  go_ret
  exact ⟨rfl, by (repeat first | exact zR | assumption | apply zA | apply zS | apply zD | apply zN | refine zT (by assumption) ?_ | omega | simp <;> omega)⟩
 ·have hff : linkR pos x = fallsB pos x.backs := by simp only [linkR]; rw [decide_eq_true (by omega)]; rfl
  rw [hff]
  have d4 : decide (4 < (x.backs.length : Int)) = false := by simp; omega
  have HX := hid hx; clear hx hff
  go_enter Tryz.func199, Tryz.ntmps199
  go_wp2_with fail
  refine (delta_falls pos x.backs _ _ _ _ hpos (lift HX.out (by (repeat first | exact zR | assumption | apply zA | apply zS | apply zD | apply zN | refine zT (by assumption) ?_ | omega | simp <;> omega))) hlen).mono ?_
  rintro e w1 ⟨rfl, hb1⟩
  go_wp2
  go_ret
  exact ⟨rfl, by (repeat first | exact zR | assumption | apply zA | apply zS | apply zD | apply zN | refine zT (by assumption) ?_ | omega | simp <;> omega)⟩
theorem takeWhile_step {α : Type} (p : α → Bool) (l : List α) (k : Nat) (h : k < l.length) : (l.drop k).takeWhile p = if p l[k] then l[k] :: (l.drop (k + 1)).takeWhile p else [] := by
 rw [List.drop_eq_getElem_cons h, List.takeWhile_cons]
theorem takeWhile_all {α : Type} (p : α → Bool) (l : List α) : decide ((l.takeWhile p).length = l.length) = l.all p := by
 induction l with
 | nil => rfl
 | cons x l ih =>
  rw [List.takeWhile_cons, List.all_cons]
  cases h : p x
  ·simp
  ·simp only [if_true, List.length_cons, Nat.add_right_cancel_iff, Bool.true_and]; exact ih
set_option maxHeartbeats 1600000 in
theorem link_place (pos : Int) (l : List Link) (a : Option Addr) (n c : Nat) (blk : Nat) (w : World) (hpos : 0 ≤ pos ∧ pos ≤ 18446744073709551615) (hl : rLinks.r (· < w.heap.size) w [.slice a n c] l) (hbk : ∀ x ∈ l, x.backs.length ≤ 1000000000000)
  (hc : w.cell? ⟨blk, 0, none⟩ = some (.int .u64 pos)) :
  Calls Tryz.prog 201 #[.slice a n c, .func (.func 199) #[] #[.pointer (some ⟨blk, 0, none⟩)]] w fun r w' => r = .returned (.int .i64 ((l.takeWhile (linkR pos)).length : Nat)) ∧ Below w.heap.size w w' := by
 obtain ⟨rfl, hm, _, _⟩ := sl_len hl
 have HL := hid hl; clear hl
 have HB := hid hbk; clear hbk
 have hblk := World.block_lt_of_cell? w _ hc
 have HC := hid hc; clear hc
 go_enter Tryz.func201, Tryz.ntmps201
 go_wp2
 go_loopw [9] (fun i wr => ∃ k : Nat, k ≤ l.length ∧ i = .int .i64 k ∧ Hid ((l.takeWhile (linkR pos)).length = k + ((l.drop k).takeWhile (linkR pos)).length) ∧ Below w.heap.size w wr) (fun i _ => l.length - (intOf i).toNat)
 case atStart => exact ⟨0, Nat.zero_le _, rfl, hid (by simp), Below.refl _ _⟩
 case round =>
  obtain ⟨k, hk, rfl, hf, hb⟩ := hrel
  by_cases hlt : k < l.length
  ·obtain ⟨b, o, hA, hbb, a1, c1, hc0, hc1, _, hbs⟩ := link_at HL.out hlt
   subst hA
   have X0 := (hb.cell (p := ⟨b, o + k * 2, none⟩) hbb).trans hc0
   have X1 := (hb.cell (p := ⟨b, o + k * 2 + 1, none⟩) hbb).trans hc1
   clear hc0 hc1
   have hbl := HB.out _ (List.getElem_mem hlt)
   have hst := hid (takeWhile_step (linkR pos) l k hlt)
   have HBS := hid hbs; clear hbs
   generalize hlk : l[k] = x at *
   clear hlk
   have hzz := hb.size
   go_wp2_with fail
   refine (link_wrong pos x _ _ _ blk _ hpos (lift HBS.out (by (repeat first | exact zR | assumption | apply zA | apply zS | apply zD | apply zN | refine zT (by assumption) ?_ | omega | simp <;> omega))) hbl ?_).mono ?_
   ·have := (Later.mk wr hb).cell HC.out
    exact (Later.mk _ ((Below.refl wr.heap.size wr).alloc (Nat.le_refl _) _)).cell this
   rintro e w1 ⟨rfl, hb1⟩
   have hb2 : Below w.heap.size w w1 := by (repeat first | exact zR | assumption | apply zA | apply zS | apply zD | apply zN | refine zT (by assumption) ?_ | omega | simp <;> omega)
   cases hr : linkR pos x
   ·have hff : Hid ((l.takeWhile (linkR pos)).length = k) := hid (by rw [hf.out, hst.out, hr]; simp)
    clear hr
    go_wp2
    go_ret
    exact ⟨by rw [hff.out]; rfl, hb2⟩
   ·have hff : Hid ((l.takeWhile (linkR pos)).length = (k + 1) + ((l.drop (k + 1)).takeWhile (linkR pos)).length) := hid (by rw [hf.out, hst.out, hr]; simp; omega)
    clear hr
    go_wp2
    go_roundw
    case rel => exact ⟨k + 1, by omega, by go_num, hff, hb2⟩
    case measure => simp [intOf]; omega
  ·obtain rfl : k = l.length := by omega
   have hff : Hid ((l.takeWhile (linkR pos)).length = l.length) := hid (by rw [hf.out, List.drop_length]; simp)
   go_wp2
   go_ret
   exact ⟨by rw [hff.out]; rfl, hb⟩
set_option maxHeartbeats 800000 in
theorem link_right (pos : Int) (l : List Link) (a : Option Addr) (n c : Nat) (w : World) (hpos : 0 ≤ pos ∧ pos ≤ 18446744073709551615) (hl : rLinks.r (· < w.heap.size) w [.slice a n c] l) (hbk : ∀ x ∈ l, x.backs.length ≤ 1000000000000) :
  Calls Tryz.prog 138 #[.int .u64 pos, .slice a n c] w fun r w' => r = .returned (.bool (linksR pos l)) ∧ Below w.heap.size w w' := by
 obtain ⟨rfl, hm, _, _⟩ := sl_len hl
 have HL := hid hl; clear hl
 have HB := hid hbk; clear hbk
 by_cases h16 : 16 < l.length
 ·have hff : Hid (linksR pos l = false) := hid (by simp [linksR]; omega)
  go_enter Tryz.func138, Tryz.ntmps138
  go_wp2
  go_ret
  exact ⟨by rw [hff.out]; rfl, by (repeat first | exact zR | assumption | apply zA | apply zS | apply zD | apply zN | refine zT (by assumption) ?_ | omega | simp <;> omega)⟩
 ·have hff : Hid (linksR pos l = (risesB (l.map Link.stream) && l.all (linkR pos))) := hid (by simp only [linksR]; rw [decide_eq_true (by omega)]; rfl)
  have hta := hid (takeWhile_all (linkR pos) l)
  go_enter Tryz.func138, Tryz.ntmps138
  go_wp2_with fail
  refine (link_rises l _ _ _ _ (lift HL.out (by (repeat first | exact zR | assumption | apply zA | apply zS | apply zD | apply zN | refine zT (by assumption) ?_ | omega | simp <;> omega)))).mono ?_
  rintro e w1 ⟨rfl, hb1⟩
  have hb2 : Below w.heap.size w w1 := by (repeat first | exact zR | assumption | apply zA | apply zS | apply zD | apply zN | refine zT (by assumption) ?_ | omega | simp <;> omega)
  cases hr : risesB (l.map Link.stream)
  ·have hf2 : Hid (linksR pos l = false) := hid (by rw [hff.out, hr]; rfl)
   clear hr
   go_wp2
   go_ret
   exact ⟨by rw [hf2.out]; rfl, hb2⟩
  ·have hf2 : Hid (linksR pos l = l.all (linkR pos)) := hid (by rw [hff.out, hr]; rfl)
   clear hr
   go_wp2_with fail
   refine (link_place pos l _ _ _ w.heap.size _ hpos (lift HL.out hb2) HB.out ?_).mono ?_
   ·exact (Later.mk w1 hb1).cell (by go_simp)
   rintro e w3 ⟨rfl, hb3⟩
   have hlt := (List.takeWhile_sublist (l := l) (linkR pos)).length_le
   generalize hg : (l.takeWhile (linkR pos)).length = t at *
   have hg' := hid hg; clear hg
   go_wp2
   go_ret
   refine ⟨?_, by (repeat first | exact zR | assumption | apply zA | apply zS | apply zD | apply zN | refine zT (by assumption) ?_ | omega | simp <;> omega)⟩
   rw [hf2.out, ← hta.out]
   by_cases h : t = l.length
   ·subst h; simp
   ·have : ¬ ((t : Int) = (l.length : Int)) := by omega
    simp [h, this]
end Go.Proofs.YtkipiefcnjfdjaaGreat
namespace Go.Proofs.YtkipiefcnjfdjaaGreat
open Go.RowKit Go.Bs
set_option linter.unusedVariables false
set_option linter.unusedSimpArgs false
set_option maxHeartbeats 3200000 in
theorem ref23_right (pos : Int) (l : List Link) (a : Option Addr) (n c : Nat) (w : World) (hl : rLinks.r (· < w.heap.size) w [.slice a n c] l) :
  Calls Tryz.prog 140 #[.int .u64 pos, .slice a n c] w fun r w' => r = .returned (.bool (linksR pos l)) ∧ Below w.heap.size w w' := by
 obtain ⟨rfl, hm, _, _⟩ := sl_len hl
 have HL := hid hl; clear hl
 by_cases h16 : 16 < l.length
 ·have hff : Hid (linksR pos l = false) := hid (by simp [linksR]; omega)
  go_enter Tryz.func140, Tryz.ntmps140
  go_wp2
  go_ret
  exact ⟨by rw [hff.out]; rfl, by (repeat first | exact zR | assumption | apply zA | apply zS | apply zD | apply zN | refine zT (by assumption) ?_ | omega | simp <;> omega)⟩
 ·have hff : Hid (linksR pos l = (risesB (l.map Link.stream) && l.all (linkR pos))) := hid (by simp only [linksR]; rw [decide_eq_true (by omega)]; rfl)
  go_enter Tryz.func140, Tryz.ntmps140
  go_wp2_with fail
  go_loopw [5] (fun i wr => ∃ k : Nat, k ≤ l.length ∧ i = .int .i64 k ∧ Hid (linksR pos l = (risesAt (l.map Link.stream) k && (l.drop k).all (linkR pos))) ∧ Below w.heap.size w wr) (fun i _ => l.length - (intOf i).toNat)
  case atStart => exact ⟨0, Nat.zero_le _, rfl, hid (by rw [hff.out]; rfl), Below.refl _ _⟩
  case round =>
   obtain ⟨k, hk, rfl, hf, hb⟩ := hrel
   clear hff
   by_cases hlt : k < l.length
   ·obtain ⟨b, o, hA, hbb, a1, c1, hc0, hc1, _, hbs⟩ := link_at HL.out hlt
    have hlt' : (k : Int) < (l.length : Int) := by omega
    have hlR : linkR pos l[k] = (decide (l[k].backs.length ≤ 4) && fallsB pos l[k].backs) := rfl
    have hdr := hid (show (l.drop k).all (linkR pos) = (linkR pos l[k] && (l.drop (k + 1)).all (linkR pos)) by rw [List.drop_eq_getElem_cons hlt]; rfl)
    obtain ⟨z, hz⟩ : ∃ z, l[k] = z := ⟨_, rfl⟩
    rw [hz] at hc0 hc1 hbs hlR hdr
    have HZ := hid hz; clear hz
    have HBS := hid (lift hbs hb)
    have HFA := fun (s : Later wr) => ref22_falls pos z.backs a1 _ c1 s.at_ (lift HBS.out s.below)
    have HF := hid HFA; clear HFA hbs
    rcases k with _ | m
    ·have h1 := hid (risesAt_one (l.map Link.stream))
     have X1 := fun s : Later wr => s.cell ((hb.cell (p := ⟨b, o + 0 * 2 + 1, none⟩) hbb).trans hc1)
     subst hA
     simp only [Nat.zero_mul, Nat.add_zero] at X1
     clear hc0 hc1
     by_cases h4 : 4 < z.backs.length
     ·have hff : Hid (linksR pos l = false) := hid (by rw [hf.out, hdr.out, hlR, decide_eq_false (by omega)]; simp)
      have d4 : decide (4 < (z.backs.length : Int)) = true := by simp; omega
      clear hlR
      go_wp2_with fail
      refine wp_region_later (by kernel_rfl) (by kernel_rfl) ?_
      repeat (go_big_quiet_step (fail))
      refine wpQuiet_nil ?_
      rintro W5 ⟨⟨W5', hb5⟩, rfl⟩
      go_wp2
      go_ret
      exact ⟨by rw [hff.out]; rfl, below_then hb5 hb⟩
     ·have d4 : decide (4 < (z.backs.length : Int)) = false := by simp; omega
      cases hfa : fallsB pos z.backs
      ·have hff : Hid (linksR pos l = false) := hid (by rw [hf.out, hdr.out, hlR, hfa]; simp)
       rw [hfa] at HF
       clear hlR hfa
       go_wp2_with fail
       refine wp_region_later (by kernel_rfl) (by kernel_rfl) ?_
       repeat (go_big_quiet_step (((go_at_call 202; exact later_of (HF.out _)))))
       refine wpQuiet_nil ?_
       rintro W5 ⟨⟨W5', hb5⟩, rfl⟩
       go_wp2
       go_ret
       exact ⟨by rw [hff.out]; rfl, below_then hb5 hb⟩
      ·have hff : Hid (linksR pos l = (risesAt (l.map Link.stream) (1) && (l.drop (1)).all (linkR pos))) := hid (by rw [hf.out, hdr.out, hlR, hfa, ← h1.out, decide_eq_true (by omega)]; simp)
       rw [hfa] at HF
       clear hlR hfa
       go_wp2_with fail
       refine wp_region_later (by kernel_rfl) (by kernel_rfl) ?_
       repeat (go_big_quiet_step (((go_at_call 202; exact later_of (HF.out _)))))
       refine wpQuiet_nil ?_
       rintro W5 ⟨⟨W5', hb5⟩, rfl⟩
       go_wp2
       go_roundw
       case rel => exact ⟨1, by omega, rfl, hff, below_then hb5 hb⟩
       case measure => simp [intOf]; omega
    ·obtain ⟨b', o', hA', hbb', a2, c2, hd0, hd1, _, _⟩ := link_at HL.out (show m < l.length by omega)
     have hst := hid (risesAt_step (l.map Link.stream) m (by simpa using hlt))
     subst hA
     obtain ⟨rfl, rfl⟩ : b' = b ∧ o' = o := by simp at hA'; exact ⟨hA'.1.symm, hA'.2.symm⟩
     clear hA'
     have X0 := fun s : Later wr => s.cell ((hb.cell (p := ⟨b', o' + (m + 1) * 2, none⟩) hbb).trans hc0)
     have X1 := fun s : Later wr => s.cell ((hb.cell (p := ⟨b', o' + (m + 1) * 2 + 1, none⟩) hbb).trans hc1)
     have Y0 := fun s : Later wr => s.cell ((hb.cell (p := ⟨b', o' + m * 2, none⟩) hbb).trans hd0)
     clear hc0 hc1 hd0 hd1
     simp only [List.getElem_map] at hst
     rw [HZ.out] at hst
     generalize hy : l[m].stream = y at *
     clear hy
     generalize hx : z.stream = x at *
     clear hx
     rw [show ((m + 1 : Nat) : Int) = (m : Int) + 1 from by omega]
     have k1 : (0 : Int) < (m : Int) + 1 := by omega
     have k2 : (0 : Int) ≤ (m : Int) + 1 - 1 := by omega
     have k3 : (m : Int) + 1 < (l.length : Int) := by omega
     have k4 : (m : Int) < (l.length : Int) := by omega
     by_cases hge : x ≤ y
     ·have d1 : decide (x ≤ y) = true := by simpa using hge
      have hff : Hid (linksR pos l = false) := hid (by rw [hf.out, hst.out, decide_eq_false (by omega)]; rfl)
      clear hge hlR
      go_wp2_with fail
      refine wp_region_later (by kernel_rfl) (by kernel_rfl) ?_
      repeat (go_big_quiet_step (fail))
      refine wpQuiet_nil ?_
      rintro W5 ⟨⟨W5', hb5⟩, rfl⟩
      go_wp2
      go_ret
      exact ⟨by rw [hff.out]; rfl, below_then hb5 hb⟩
     ·have d1 : decide (x ≤ y) = false := by simpa using hge
      have hst' : Hid (risesAt (l.map Link.stream) (m + 1) = risesAt (l.map Link.stream) (m + 2)) := hid (by rw [hst.out, decide_eq_true (by omega)]; rfl)
      clear hge
      by_cases h4 : 4 < z.backs.length
      ·have hff : Hid (linksR pos l = false) := hid (by rw [hf.out, hdr.out, hlR, decide_eq_false (by omega)]; simp)
       have d4 : decide (4 < (z.backs.length : Int)) = true := by simp; omega
       clear hlR
       go_wp2_with fail
       refine wp_region_later (by kernel_rfl) (by kernel_rfl) ?_
       repeat (go_big_quiet_step (fail))
       refine wpQuiet_nil ?_
       rintro W5 ⟨⟨W5', hb5⟩, rfl⟩
       go_wp2
       go_ret
       exact ⟨by rw [hff.out]; rfl, below_then hb5 hb⟩
      ·have d4 : decide (4 < (z.backs.length : Int)) = false := by simp; omega
       cases hfa : fallsB pos z.backs
       ·have hff : Hid (linksR pos l = false) := hid (by rw [hf.out, hdr.out, hlR, hfa]; simp)
        rw [hfa] at HF
        clear hlR hfa
        go_wp2_with fail
        refine wp_region_later (by kernel_rfl) (by kernel_rfl) ?_
        repeat (go_big_quiet_step (((go_at_call 202; exact later_of (HF.out _)))))
        refine wpQuiet_nil ?_
        rintro W5 ⟨⟨W5', hb5⟩, rfl⟩
        go_wp2
        go_ret
        exact ⟨by rw [hff.out]; rfl, below_then hb5 hb⟩
       ·have hff : Hid (linksR pos l = (risesAt (l.map Link.stream) (m + 2) && (l.drop (m + 2)).all (linkR pos))) := hid (by rw [hf.out, hdr.out, hlR, hfa, hst'.out, decide_eq_true (by omega)]; simp)
        rw [hfa] at HF
        clear hlR hfa
        go_wp2_with fail
        refine wp_region_later (by kernel_rfl) (by kernel_rfl) ?_
        repeat (go_big_quiet_step (((go_at_call 202; exact later_of (HF.out _)))))
        refine wpQuiet_nil ?_
        rintro W5 ⟨⟨W5', hb5⟩, rfl⟩
        go_wp2
        go_roundw
        case rel => exact ⟨m + 2, by omega, by go_num, hff, below_then hb5 hb⟩
        case measure => simp [intOf]; omega
   ·obtain rfl : k = l.length := by omega
    have hff : Hid (linksR pos l = true) := hid (by
     have := risesAt_end (l.map Link.stream)
     rw [List.length_map] at this
     rw [hf.out, this, List.drop_length]; rfl)
    go_wp2
    go_ret
    exact ⟨by rw [hff.out]; rfl, hb⟩
set_option maxHeartbeats 800000 in
theorem ref23_one (x y : Link) (a a' : Option Addr) (n c n' c' : Nat) (w : World) (hx : rU64s.r (· < w.heap.size) w [.slice a n c] x.backs) (hy : rU64s.r (· < w.heap.size) w [.slice a' n' c'] y.backs) :
  Calls Tryz.prog 173 #[.agg #[.int .u64 x.stream, .slice a n c], .agg #[.int .u64 y.stream, .slice a' n' c']] w fun r w' => r = .returned (.bool (decide (x = y))) ∧ Below w.heap.size w w' := by
 have he : decide (x = y) = (decide (x.stream = y.stream) && decide (x.backs = y.backs)) := by
  rw [Bool.eq_iff_iff]; cases x; cases y; simp
 have HE := hid he; clear he
 have HX := hid hx; clear hx
 have HY := hid hy; clear hy
 by_cases h : x.stream = y.stream
 ·have e1 : (x.stream == y.stream) = true := by simp [h]
  have hff : Hid (decide (x = y) = decide (x.backs = y.backs)) := hid (by rw [HE.out]; simp [h])
  clear h
  go_enter Tryz.func173, Tryz.ntmps173
  go_wp2_with fail
  refine (same_u64s x.backs y.backs _ _ _ _ _ _ _ (lift HX.out (by (repeat first | exact zR | assumption | apply zA | apply zS | apply zD | apply zN | refine zT (by assumption) ?_ | omega | simp <;> omega))) (lift HY.out (by (repeat first | exact zR | assumption | apply zA | apply zS | apply zD | apply zN | refine zT (by assumption) ?_ | omega | simp <;> omega)))).mono ?_
  rintro e w1 ⟨rfl, hb1⟩
  go_wp2
  go_ret
  exact ⟨by rw [hff.out]; rfl, by (repeat first | exact zR | assumption | apply zA | apply zS | apply zD | apply zN | refine zT (by assumption) ?_ | omega | simp <;> omega)⟩
 ·have e1 : (x.stream == y.stream) = false := by simp [h]
  have hff : Hid (decide (x = y) = false) := hid (by rw [HE.out]; simp [h])
  clear h
  go_enter Tryz.func173, Tryz.ntmps173
  go_wp2
  go_ret
  exact ⟨by rw [hff.out]; rfl, by (repeat first | exact zR | assumption | apply zA | apply zS | apply zD | apply zN | refine zT (by assumption) ?_ | omega | simp <;> omega)⟩
end Go.Proofs.YtkipiefcnjfdjaaGreat
namespace Go.Proofs.YtkipiefcnjfdjaaGreat
open Go.RowKit Go.Bs
set_option linter.unusedVariables false
set_option linter.unusedSimpArgs false
set_option maxHeartbeats 1600000 in
theorem ref23_same (x y : List Link) (a a' : Option Addr) (n c n' c' : Nat) (w : World) (hx : rLinks.r (· < w.heap.size) w [.slice a n c] x) (hy : rLinks.r (· < w.heap.size) w [.slice a' n' c'] y) :
  Calls Tryz.prog 112 #[.slice a n c, .slice a' n' c'] w fun r w' => r = .returned (.bool (decide (x = y))) ∧ Below w.heap.size w w' := by
 obtain ⟨rfl, hm, _, _⟩ := sl_len hx
 obtain ⟨rfl, hm', _, _⟩ := sl_len hy
 by_cases hl : x.length = y.length
 ·have HX := hid hx; clear hx
  have HY := hid hy; clear hy
  have HL := hid hl
  have e1 : ((x.length : Int) != (y.length : Int)) = false := by simp [hl]
  clear hl
  go_enter Tryz.func112, Tryz.ntmps112
  go_wp2
  go_loopw [5] (fun i wr => ∃ k : Nat, k ≤ x.length ∧ i = .int .i64 k ∧ Hid (decide (x = y) = decide (x.drop k = y.drop k)) ∧ Below w.heap.size w wr) (fun i _ => x.length - (intOf i).toNat)
  case atStart => exact ⟨0, Nat.zero_le _, rfl, hid rfl, Below.refl _ _⟩
  case round =>
   obtain ⟨k, hk, rfl, hf, hb⟩ := hrel
   by_cases hlt : k < x.length
   ·have hlt' : k < y.length := by rw [← HL.out]; exact hlt
    obtain ⟨b, o, hA, hbb, a1, c1, hc0, hc1, _, hr1⟩ := link_at HX.out hlt
    obtain ⟨b', o', hA', hbb', a2, c2, hd0, hd1, _, hr2⟩ := link_at HY.out hlt'
    have hst := hid (drop_eq_step x y k hlt hlt')
    subst hA hA'
    have X0 := fun s : Later wr => s.cell ((hb.cell (p := ⟨b, o + k * 2, none⟩) hbb).trans hc0)
    have X1 := fun s : Later wr => s.cell ((hb.cell (p := ⟨b, o + k * 2 + 1, none⟩) hbb).trans hc1)
    have Y0 := fun s : Later wr => s.cell ((hb.cell (p := ⟨b', o' + k * 2, none⟩) hbb').trans hd0)
    have Y1 := fun s : Later wr => s.cell ((hb.cell (p := ⟨b', o' + k * 2 + 1, none⟩) hbb').trans hd1)
    clear hc0 hc1 hd0 hd1
    generalize hlk : x[k] = u at *
    generalize hlm : y[k] = v at *
    clear hlk hlm
    have hs1 := hid (lift hr1 hb)
    have hs2 := hid (lift hr2 hb)
    clear hr1 hr2
    have hO := fun s : Later wr => ref23_one u v a1 a2 _ c1 _ c2 s.at_ (lift hs1.out s.below) (lift hs2.out s.below)
    have i0 : (0 : Int) ≤ (k : Int) := by omega
    have i1 : (k : Int) < (x.length : Int) := by omega
    have i2 : (k : Int) < (y.length : Int) := by omega
    by_cases huv : u = v
    ·rw [decide_eq_true huv] at hO
     have HO := hid hO; clear hO
     have hst' : Hid (decide (x.drop k = y.drop k) = decide (x.drop (k + 1) = y.drop (k + 1))) := hid (by rw [hst.out]; simp [huv])
     clear huv
     go_wp2_with fail
     refine wp_region_later (by kernel_rfl) (by kernel_rfl) ?_
     repeat (go_big_quiet_step (((go_at_call 173; exact later_of (HO.out _)))))
     refine wpQuiet_nil ?_
     rintro W5 ⟨⟨W5', hb5⟩, rfl⟩
     go_wp2
     go_roundw
     case rel => exact ⟨k + 1, by omega, by go_num, hid (by rw [hf.out, hst'.out]), below_then hb5 hb⟩
     case measure => simp [intOf]; omega
    ·rw [decide_eq_false huv] at hO
     have HO := hid hO; clear hO
     have hff : Hid (decide (x = y) = false) := hid (by rw [hf.out, hst.out]; simp [huv])
     clear huv
     go_wp2_with fail
     refine wp_region_later (by kernel_rfl) (by kernel_rfl) ?_
     repeat (go_big_quiet_step (((go_at_call 173; exact later_of (HO.out _)))))
     refine wpQuiet_nil ?_
     rintro W5 ⟨⟨W5', hb5⟩, rfl⟩
     go_wp2
     go_ret
     exact ⟨by rw [hff.out]; rfl, below_then hb5 hb⟩
   ·obtain rfl : k = x.length := by omega
    have hff : Hid (decide (x = y) = true) := hid (by rw [hf.out, List.drop_length, List.drop_of_length_le (by rw [HL.out]; exact Nat.le_refl _)]; rfl)
    go_wp2
    go_ret
    exact ⟨by rw [hff.out]; rfl, hb⟩
 ·have hff : Hid (decide (x = y) = false) := hid (by simp; rintro rfl; exact hl rfl)
  have e1 : ((x.length : Int) != (y.length : Int)) = true := by simp; omega
  clear hl hx hy
  go_enter Tryz.func112, Tryz.ntmps112
  go_wp2
  go_ret
  exact ⟨by rw [hff.out]; rfl, Below.refl _ _⟩
set_option maxHeartbeats 800000 in
theorem ref24_same (x y : Entry) (a1 a2 a3 a4 : Option Addr) (n1 c1 n2 c2 n3 c3 n4 c4 : Nat) (w : World) (hx : rLinks.r (· < w.heap.size) w [.slice a1 n1 c1] x.links) (hx' : rBytes.r (· < w.heap.size) w [.slice a3 n3 c3] x.data)
  (hy : rLinks.r (· < w.heap.size) w [.slice a2 n2 c2] y.links) (hy' : rBytes.r (· < w.heap.size) w [.slice a4 n4 c4] y.data) :
  Calls Tryz.prog 54 #[.agg #[.slice a1 n1 c1, .slice a3 n3 c3], .agg #[.slice a2 n2 c2, .slice a4 n4 c4]] w fun r w' => r = .returned (.bool (decide (x = y))) ∧ Below w.heap.size w w' := by
 have he : decide (x = y) = (decide (x.links = y.links) && decide (x.data = y.data)) := by
  rw [Bool.eq_iff_iff]; cases x; cases y; simp
 have HE := hid he; clear he
 have HX := hid hx; clear hx
 have HY := hid hy; clear hy
 have HX' := hid hx'; clear hx'
 have HY' := hid hy'; clear hy'
 go_enter Tryz.func54, Tryz.ntmps54
 go_wp2_with fail
 refine (ref23_same x.links y.links _ _ _ _ _ _ _ (lift HX.out (by (repeat first | exact zR | assumption | apply zA | apply zS | apply zD | apply zN | refine zT (by assumption) ?_ | omega | simp <;> omega))) (lift HY.out (by (repeat first | exact zR | assumption | apply zA | apply zS | apply zD | apply zN | refine zT (by assumption) ?_ | omega | simp <;> omega)))).mono ?_
 rintro e w1 ⟨rfl, hb1⟩
 have hb2 : Below w.heap.size w w1 := by (repeat first | exact zR | assumption | apply zA | apply zS | apply zD | apply zN | refine zT (by assumption) ?_ | omega | simp <;> omega)
 obtain ⟨hc1, hf1⟩ := bcell hb1
 by_cases h : x.links = y.links
 ·have hff : Hid (decide (x = y) = decide (x.data = y.data)) := hid (by rw [HE.out, decide_eq_true h]; rfl)
  rw [decide_eq_true h]
  clear h
  go_wp2_with fail
  refine (same_bytes x.data y.data _ _ _ _ _ _ _ (lift HX'.out hb2) (lift HY'.out hb2)).mono ?_
  rintro e w' ⟨rfl, rfl⟩
  go_wp2
  go_ret
  exact ⟨by rw [hff.out]; rfl, hb2⟩
 ·have hff : Hid (decide (x = y) = false) := hid (by rw [HE.out, decide_eq_false h]; rfl)
  rw [decide_eq_false h]
  clear h
  go_wp2
  go_ret
  exact ⟨by rw [hff.out]; rfl, hb2⟩
set_option maxHeartbeats 1600000 in
theorem ref24_all (x y : List Entry) (a a' : Option Addr) (n c n' c' : Nat) (w : World) (hx : rEntries.r (· < w.heap.size) w [.slice a n c] x) (hy : rEntries.r (· < w.heap.size) w [.slice a' n' c'] y) :
  Calls Tryz.prog 87 #[.slice a n c, .slice a' n' c'] w fun r w' => r = .returned (.bool (decide (x = y))) ∧ Below w.heap.size w w' := by
 obtain ⟨rfl, hm, _, _⟩ := sl_len hx
 obtain ⟨rfl, hm', _, _⟩ := sl_len hy
 by_cases hl : x.length = y.length
 ·have HX := hid hx; clear hx
  have HY := hid hy; clear hy
  have HL := hid hl
  have e1 : ((x.length : Int) != (y.length : Int)) = false := by simp [hl]
  clear hl
  go_enter Tryz.func87, Tryz.ntmps87
  go_wp2
  go_loopw [5] (fun i wr => ∃ k : Nat, k ≤ x.length ∧ i = .int .i64 k ∧ Hid (decide (x = y) = decide (x.drop k = y.drop k)) ∧ Below w.heap.size w wr) (fun i _ => x.length - (intOf i).toNat)
  case atStart => exact ⟨0, Nat.zero_le _, rfl, hid rfl, Below.refl _ _⟩
  case round =>
   obtain ⟨k, hk, rfl, hf, hb⟩ := hrel
   by_cases hlt : k < x.length
   ·have hlt' : k < y.length := by rw [← HL.out]; exact hlt
    obtain ⟨b, o, hA, hbb, a1, c1, a3, c3, hc0, hc1, hr1, hr3⟩ := entry_at HX.out hlt
    obtain ⟨b', o', hA', hbb', a2, c2, a4, c4, hd0, hd1, hr2, hr4⟩ := entry_at HY.out hlt'
    have hst := hid (drop_eq_step x y k hlt hlt')
    subst hA hA'
    have X0 := fun s : Later wr => s.cell ((hb.cell (p := ⟨b, o + k * 2, none⟩) hbb).trans hc0)
    have X1 := fun s : Later wr => s.cell ((hb.cell (p := ⟨b, o + k * 2 + 1, none⟩) hbb).trans hc1)
    have Y0 := fun s : Later wr => s.cell ((hb.cell (p := ⟨b', o' + k * 2, none⟩) hbb').trans hd0)
    have Y1 := fun s : Later wr => s.cell ((hb.cell (p := ⟨b', o' + k * 2 + 1, none⟩) hbb').trans hd1)
    clear hc0 hc1 hd0 hd1
    generalize hlk : x[k] = u at *
    generalize hlm : y[k] = v at *
    clear hlk hlm
    have hs1 := hid (lift hr1 hb)
    have hs2 := hid (lift hr2 hb)
    have hs3 := hid (lift hr3 hb)
    have hs4 := hid (lift hr4 hb)
    clear hr1 hr2 hr3 hr4
    have hO := fun s : Later wr => ref24_same u v a1 a2 a3 a4 _ c1 _ c2 _ c3 _ c4 s.at_ (lift hs1.out s.below) (lift hs3.out s.below) (lift hs2.out s.below) (lift hs4.out s.below)
    have i0 : (0 : Int) ≤ (k : Int) := by omega
    have i1 : (k : Int) < (x.length : Int) := by omega
    have i2 : (k : Int) < (y.length : Int) := by omega
    by_cases huv : u = v
    ·rw [decide_eq_true huv] at hO
     have HO := hid hO; clear hO
     have hst' : Hid (decide (x.drop k = y.drop k) = decide (x.drop (k + 1) = y.drop (k + 1))) := hid (by rw [hst.out]; simp [huv])
     clear huv
     go_wp2_with fail
     refine wp_region_later (by kernel_rfl) (by kernel_rfl) ?_
     repeat (go_big_quiet_step (((go_at_call 54; exact later_of (HO.out _)))))
     refine wpQuiet_nil ?_
     rintro W5 ⟨⟨W5', hb5⟩, rfl⟩
     go_wp2
     go_roundw
     case rel => exact ⟨k + 1, by omega, by go_num, hid (by rw [hf.out, hst'.out]), below_then hb5 hb⟩
     case measure => simp [intOf]; omega
    ·rw [decide_eq_false huv] at hO
     have HO := hid hO; clear hO
     have hff : Hid (decide (x = y) = false) := hid (by rw [hf.out, hst.out]; simp [huv])
     clear huv
     go_wp2_with fail
     refine wp_region_later (by kernel_rfl) (by kernel_rfl) ?_
     repeat (go_big_quiet_step (((go_at_call 54; exact later_of (HO.out _)))))
     refine wpQuiet_nil ?_
     rintro W5 ⟨⟨W5', hb5⟩, rfl⟩
     go_wp2
     go_ret
     exact ⟨by rw [hff.out]; rfl, below_then hb5 hb⟩
   ·obtain rfl : k = x.length := by omega
    have hff : Hid (decide (x = y) = true) := hid (by rw [hf.out, List.drop_length, List.drop_of_length_le (by rw [HL.out]; exact Nat.le_refl _)]; rfl)
    go_wp2
    go_ret
    exact ⟨by rw [hff.out]; rfl, hb⟩
 ·have hff : Hid (decide (x = y) = false) := hid (by simp; rintro rfl; exact hl rfl)
  have e1 : ((x.length : Int) != (y.length : Int)) = true := by simp; omega
  clear hl hx hy
  go_enter Tryz.func87, Tryz.ntmps87
  go_wp2
  go_ret
  exact ⟨by rw [hff.out]; rfl, Below.refl _ _⟩
set_option maxHeartbeats 800000 in
theorem entry_right (pos : Int) (x : Entry) (a1 a3 : Option Addr) (n1 c1 n3 c3 : Nat) (w : World) (hpos : 0 ≤ pos ∧ pos ≤ 18446744073709551615) (hbk : ∀ l ∈ x.links, l.backs.length ≤ 1000000000000) (hx : rLinks.r (· < w.heap.size) w [.slice a1 n1 c1] x.links) (hx' : rBytes.r (· < w.heap.size) w [.slice a3 n3 c3] x.data) :
  Calls Tryz.prog 81 #[.int .u64 pos, .agg #[.slice a1 n1 c1, .slice a3 n3 c3]] w fun r w' => r = .returned (.bool (entryR pos x)) ∧ Below w.heap.size w w' := by
 obtain ⟨rfl, hm, _, _⟩ := sl_len hx'
 have HX := hid hx; clear hx hx'
 go_enter Tryz.func81, Tryz.ntmps81
 go_wp2_with fail
 refine (link_right pos x.links _ _ _ _ hpos (lift HX.out (by (repeat first | exact zR | assumption | apply zA | apply zS | apply zD | apply zN | refine zT (by assumption) ?_ | omega | simp <;> omega))) hbk).mono ?_
 rintro e w1 ⟨rfl, hb1⟩
 have hb2 : Below w.heap.size w w1 := by (repeat first | exact zR | assumption | apply zA | apply zS | apply zD | apply zN | refine zT (by assumption) ?_ | omega | simp <;> omega)
 obtain ⟨hc1, hf1⟩ := bcell hb1
 cases h : linksR pos x.links
 ·have hff : Hid (entryR pos x = false) := hid (by simp [entryR, h])
  clear h
  go_wp2
  go_ret
  exact ⟨by rw [hff.out]; rfl, hb2⟩
 ·have hff : Hid (entryR pos x = decide (x.data.length ≤ 1048576)) := hid (by simp [entryR, h])
  clear h
  go_wp2
  go_ret
  refine ⟨?_, hb2⟩
  rw [hff.out]
  by_cases h : x.data.length ≤ 1048576
  ·rw [decide_eq_true h]; simp; omega
  ·rw [decide_eq_false h]; simp; omega
set_option maxHeartbeats 800000 in
theorem ref24_right (pos : Int) (x : Entry) (a1 a3 : Option Addr) (n1 c1 n3 c3 : Nat) (w : World) (hx : rLinks.r (· < w.heap.size) w [.slice a1 n1 c1] x.links) (hx' : rBytes.r (· < w.heap.size) w [.slice a3 n3 c3] x.data) :
  Calls Tryz.prog 85 #[.int .u64 pos, .agg #[.slice a1 n1 c1, .slice a3 n3 c3]] w fun r w' => r = .returned (.bool (entryR pos x)) ∧ Below w.heap.size w w' := by
 obtain ⟨rfl, hm, _, _⟩ := sl_len hx'
 have HX := hid hx; clear hx hx'
 go_enter Tryz.func85, Tryz.ntmps85
 go_wp2_with fail
 refine (ref23_right pos x.links _ _ _ _ (lift HX.out (by (repeat first | exact zR | assumption | apply zA | apply zS | apply zD | apply zN | refine zT (by assumption) ?_ | omega | simp <;> omega)))).mono ?_
 rintro e w1 ⟨rfl, hb1⟩
 have hb2 : Below w.heap.size w w1 := by (repeat first | exact zR | assumption | apply zA | apply zS | apply zD | apply zN | refine zT (by assumption) ?_ | omega | simp <;> omega)
 obtain ⟨hc1, hf1⟩ := bcell hb1
 cases h : linksR pos x.links
 ·have hff : Hid (entryR pos x = false) := hid (by simp [entryR, h])
  clear h
  go_wp2
  go_ret
  exact ⟨by rw [hff.out]; rfl, hb2⟩
 ·have hff : Hid (entryR pos x = decide (x.data.length ≤ 1048576)) := hid (by simp [entryR, h])
  clear h
  go_wp2
  go_ret
  refine ⟨?_, hb2⟩
  rw [hff.out]
  by_cases h : x.data.length ≤ 1048576
  ·rw [decide_eq_true h]; simp; omega
  ·rw [decide_eq_false h]; simp; omega
end Go.Proofs.YtkipiefcnjfdjaaGreat
namespace Go.Bs
open Go.RowKit
set_option linter.unusedVariables false
section
variable {P : Program} {w : World}
def Src (w : World) (A : Option Addr) (m sz : Nat) (news : List Value) : Prop :=
 news.length = m * sz ∧ (m = 0 ∨ ∃ b o, A = some ⟨b, o, none⟩ ∧ ∀ j u, news[j]? = some u → w.cell? ⟨b, o + j, none⟩ = some u)
theorem run_append_nilsrc (base : Nat) (t ty e : TypeId) (i : TypeInfo) (size : Nat) (ht : P.underlying t = some (.slice e)) (hi : P.info? e = some i)
  (v : Value) (n : Nat) (xs : List Value) (hown : w.ownsRow base e size v n xs) (c : Nat) : (Builtin.append_ #[t, t] ty #[v, .slice none 0 c]).run P w = .ok v w := by
 rcases hown.2 with ⟨rfl, rfl⟩ | ⟨g, cap, cur, rfl, _, _, hnc, _⟩
 ·simp [Builtin.append_, run_underlying ht, sizeOf, typeInfo, hi, Builtin.lenOf, Builtin.firstCells]
 ·simp [Builtin.append_, run_underlying ht, sizeOf, typeInfo, hi, Builtin.lenOf, Builtin.firstCells, hnc, storeCells]
theorem add_plain (b o j : Nat) : (⟨b, o, none⟩ : Addr).add j = ⟨b, o + j, none⟩ := by
 unfold Addr.add
 split
 ·rename_i h; subst h; rfl
 ·rfl
theorem run_append_src (base : Nat) (t ty e : TypeId) (i : TypeInfo) (z : Value) (size bytes : Nat) (ht : P.underlying t = some (.slice e)) (hi : P.info? e = some i) (hz : i.zero = some z)
  (hsize : i.size = size) (hby : i.bytes = bytes) (hzs : z.cells.size = size) (hsz : 0 < size)
  (v : Value) (n : Nat) (xs : List Value) (hown : w.ownsRow base e size v n xs) (A : Option Addr) (m c : Nat) (news : List Value) (hs : Src w A m size news) (h1 : ∀ u ∈ news, u.oneCell' = true)
  (h63 : n + m ≤ maxLen) (hbytes : (n + m) * bytes ≤ 140737488355328) (hbase : base ≤ w.heap.size) :
  ∃ v' w', (Builtin.append_ #[t, t] ty #[v, .slice A m c]).run P w = .ok v' w' ∧ w'.ownsRow base e size v' (n + m) (xs ++ news) ∧ w.grownBy w' v.ownBlock ∧ (v'.ownBlock = v.ownBlock ∨ v'.ownBlock = some w.heap.size) := by
 obtain ⟨hl, hs⟩ := hs
 rcases A with _ | ad
 ·have hm : m = 0 := by
   rcases hs with h | ⟨b, o, h, _⟩
   ·exact h
   ·cases h
  subst hm
  have hn : news = [] := List.eq_nil_of_length_eq_zero (by simpa using hl)
  subst hn
  exact ⟨v, w, run_append_nilsrc base t ty e i size ht hi v n xs hown c, by simpa using hown, World.grownBy.refl w _, .inl rfl⟩
 ·have hcells : ∀ j u, news[j]? = some u → w.cell? (ad.add j) = some u := by
   intro j u hu
   rcases hs with h | ⟨b, o, h, hc⟩
   ·subst h
    have hn : news = [] := List.eq_nil_of_length_eq_zero (by simpa using hl)
    subst hn
    simp at hu
   ·injection h with h
    subst h
    rw [add_plain]; exact hc j u hu
  obtain ⟨v', w', hrun, h2, h3, _, h5⟩ := run_append_own_at (P := P) w base t ty e i z size bytes ht hi hz hsize hby hzs hsz v n xs hown ad m c news hl hcells h1 h63 hbytes hbase
  exact ⟨v', w', hrun, h2, h3, h5⟩
theorem wpList_append_src {ops : Array Oper} {rest : List Oper} {o : Oper} {a : Act} {Q : Exit → Act → World → Prop} (hgd : o.guard = none) (s x : Operand) (t : TypeId)
  (ho : o.op = .call { callee := .builtin .append, args := #[s, x], argTypes := #[t, t] })
  (base : Nat) (e : TypeId) (i : TypeInfo) (z : Value) (size bytes : Nat) (ht : P.underlying t = some (.slice e)) (hi : P.info? e = some i) (hz : i.zero = some z)
  (hsize : i.size = size) (hby : i.bytes = bytes) (hzs : z.cells.size = size) (hsz : 0 < size)
  (v : Value) (n : Nat) (xs : List Value) (hs : a.eval s = v) (hown : w.ownsRow base e size v n xs)
  (A : Option Addr) (m c : Nat) (news : List Value) (hx : a.eval x = .slice A m c) (hsrc : Src w A m size news) (h1 : ∀ u ∈ news, u.oneCell' = true)
  (h63 : n + m ≤ maxLen) (hbytes : (n + m) * bytes ≤ 140737488355328) (hbase : base ≤ w.heap.size)
  (h : ∀ v' w', w'.ownsRow base e size v' (n + m) (xs ++ news) → w.grownBy w' v.ownBlock → (v'.ownBlock = v.ownBlock ∨ v'.ownBlock = some w.heap.size) → wpList P ops Q rest (a.put o.dst v') w') : wpList P ops Q (o :: rest) a w :=
 wpList_plain hgd fun _ hK => by
  obtain ⟨v', w', hrun, h2, h3, h4⟩ := run_append_src (P := P) base t o.type e i z size bytes ht hi hz hsize hby hzs hsz v n xs hown A m c news hsrc h1 h63 hbytes hbase
  unfold Oper.wp execOp
  simp only [ho, resolve, invoke, builtin, Sem.run_bind, Sem.run_pure, Result.andThen_ok, List.map_toArray, List.map_cons, List.map_nil, hs, hx, hrun]
  exact hK _ _ (h v' w' h2 h3 h4)
def byteCells (l : List UInt8) : List Value := l.map fun b => .int .u8 (b.toNat : Int)
theorem byteCells_one (l : List UInt8) : ∀ u ∈ byteCells l, u.oneCell' = true := by
 intro u hu
 obtain ⟨b, _, rfl⟩ := List.mem_map.1 hu
 rfl
theorem src_bytes {S : Nat → Prop} {a : Option Addr} {n c : Nat} {l : List UInt8} (h : rBytes.r S w [.slice a n c] l) : Src w a l.length 1 (byteCells l) := by
 refine ⟨by simp [byteCells], ?_⟩
 rcases l with _ | ⟨x, l⟩
 ·exact .inl rfl
 ·right
  obtain ⟨b, o, e, _⟩ := byte_at h (i := 0) (by simp)
  refine ⟨b, o, e, fun j u hu => ?_⟩
  have hj : j < (x :: l).length := by
   have := (List.getElem?_eq_some_iff.1 hu).1
   simpa [byteCells] using this
  obtain ⟨b', o', e', _, hc⟩ := byte_at h hj
  rw [e] at e'
  simp at e'
  obtain ⟨rfl, rfl⟩ := e'
  have : u = .int .u8 (((x :: l)[j]).toNat : Int) := by
   simp only [byteCells, List.getElem?_map, List.getElem?_eq_getElem hj, Option.map_some, Option.some.injEq] at hu
   exact hu.symm
  rw [this]; exact hc
theorem own_bytes {base : Nat} {e : TypeId} {v : Value} {l : List UInt8} {n : Nat} (hn : n = l.length) (h : w.ownsRow base e 1 v n (byteCells l)) : rBytes.r (· < w.heap.size) w [v] l := by
 subst hn
 rcases h.2 with ⟨rfl, h0⟩ | ⟨g, cap, cur, rfl, hbg, hg, hn, hc, hcur, hx⟩
 ·have : l = [] := List.eq_nil_of_length_eq_zero h0
  subst this
  exact rSl_mk rfl (Nat.le_refl _) (Nat.zero_le _) (.inl rfl)
 ·refine rSl_mk rfl hn hc (.inr ⟨g, 0, rfl, Blk.lt hg, fun i x hi => ⟨[.int .u8 (x.toNat : Int)], rfl, fun j v hj => ?_, rfl⟩⟩)
  have hj0 : j = 0 := by
   rcases j with _ | j
   ·rfl
   ·simp at hj
  subst hj0
  simp at hj
  subst hj
  have hi' : i < l.length := (List.getElem?_eq_some_iff.1 hi).1
  rw [Nat.zero_add, Nat.mul_one, Nat.add_zero, Blk.cell hg i]
  have e1 : cur[i]? = (cur.toList.take (l.length * 1))[i]? := by
   rw [List.getElem?_take, if_pos (by omega)]; simp
  rw [e1, hx, byteCells, List.getElem?_map, hi]; rfl
end
end Go.Bs
namespace Go.Proofs.YtkipiefcnjfdjaaGreat
open Go.RowKit Go.Bs
set_option linter.unusedVariables false
set_option linter.unusedSimpArgs false
theorem info8 : (Tryz.prog.info? 5).map (fun i => (i.zero, i.size, i.bytes)) = some (some (.int .u8 0), 1, 1) := by kernel_rfl
theorem total_step (l : List Entry) (k : Nat) (h : k < l.length) : total (l.take (k + 1)) = total (l.take k) + l[k].data.length := by
 unfold total
 rw [List.take_succ_eq_append_getElem h, List.map_append, List.sum_append]
 simp
theorem total_take_le (l : List Entry) (k : Nat) : total (l.take k) ≤ total l := by
 have : total l = total (l.take k) + total (l.drop k) := by
  unfold total
  rw [← List.sum_append, ← List.map_append, List.take_append_drop]
 omega
set_option maxHeartbeats 800000 in
theorem entry_total (l : List Entry) (a : Option Addr) (n c : Nat) (w : World) (hl : rEntries.r (· < w.heap.size) w [.slice a n c] l) (ht : total l ≤ 1000000000000) :
  Calls Tryz.prog 80 #[.slice a n c] w fun r w' => r = .returned (.int .i64 (total l : Nat)) ∧ Below w.heap.size w w' := by
 obtain ⟨rfl, hm, _, _⟩ := sl_len hl
 have HL := hid hl; clear hl
 go_enter Tryz.func80, Tryz.ntmps80
 go_wp2
 go_loopw [3, 8] (fun s i wr => ∃ k : Nat, k ≤ l.length ∧ i = .int .i64 k ∧ s = .int .i64 (total (l.take k) : Nat) ∧ Below w.heap.size w wr) (fun _ i _ => l.length - (intOf i).toNat)
 case atStart => exact ⟨0, Nat.zero_le _, rfl, rfl, Below.refl _ _⟩
 case round =>
  obtain ⟨k, hk, rfl, rfl, hb⟩ := hrel
  by_cases hlt : k < l.length
  ·obtain ⟨b, o, hA, hbb, a1, c1, a2, c2, hc0, hc1, _, _⟩ := entry_at HL.out hlt
   subst hA
   have X0 := (hb.cell (p := ⟨b, o + k * 2, none⟩) hbb).trans hc0
   have X1 := (hb.cell (p := ⟨b, o + k * 2 + 1, none⟩) hbb).trans hc1
   clear hc0 hc1
   have hs := hid (total_step l k hlt)
   have h1 := total_take_le l (k + 1)
   rw [hs.out] at h1
   generalize l[k].links.length = n1 at *
   generalize l[k].data.length = n2 at *
   generalize total (l.take k) = t at *
   go_wp2
   go_roundw
   case rel => exact ⟨k + 1, by omega, by go_num, by rw [hs.out]; simp only [Int.natCast_add], hb.alloc hb.size _⟩
   case measure => simp [intOf]; omega
  ·obtain rfl : k = l.length := by omega
   rw [List.take_length]
   go_wp2
   go_ret
   exact ⟨rfl, hb⟩
def joined (l : List Entry) : List UInt8 := l.flatMap Entry.data
theorem joined_length (l : List Entry) : (joined l).length = total l := by
 unfold joined total
 rw [List.length_flatMap]
theorem joined_step (l : List Entry) (k : Nat) (h : k < l.length) : joined (l.take (k + 1)) = joined (l.take k) ++ l[k].data := by
 unfold joined
 rw [List.take_succ_eq_append_getElem h, List.flatMap_append]
 simp
def BytesRet (l : List UInt8) (w : World) (e : Ending) (w' : World) : Prop := ∃ v, e = .returned v ∧ rBytes.r (· < w'.heap.size) w' [v] l ∧ Below w.heap.size w w'
set_option maxHeartbeats 800000 in
theorem ref24_join (l : List Entry) (a : Option Addr) (n c : Nat) (w : World) (hl : rEntries.r (· < w.heap.size) w [.slice a n c] l) (ht : total l ≤ 1000000000000) :
  Calls Tryz.prog 84 #[.slice a n c] w (BytesRet (joined l) w) := by
 obtain ⟨rfl, hm, _, _⟩ := sl_len hl
 obtain ⟨i0, hi, hz0, hz1, hz2⟩ := info_parts info8
 have HL := hid hl; clear hl
 go_enter Tryz.func84, Tryz.ntmps84
 go_wp2
 go_loopw [3, 4] (fun v i wr => ∃ k : Nat, k ≤ l.length ∧ i = .int .i64 k ∧ wr.ownsRow w.heap.size 5 1 v (total (l.take k)) (byteCells (joined (l.take k))) ∧ Below w.heap.size w wr) (fun _ i _ => l.length - (intOf i).toNat)
 case atStart => exact ⟨0, Nat.zero_le _, rfl, ⟨rfl, .inl ⟨rfl, rfl⟩⟩, Below.refl _ _⟩
 case round =>
  obtain ⟨k, hk, rfl, hown, hb⟩ := hrel
  by_cases hlt : k < l.length
  ·obtain ⟨b, o, hA, hbb, a1, c1, a2, c2, hc0, hc1, _, hd⟩ := entry_at HL.out hlt
   subst hA
   have X1 := (hb.cell (p := ⟨b, o + k * 2 + 1, none⟩) hbb).trans hc1
   clear hc0 hc1
   have hs := hid (total_step l k hlt)
   have hj := hid (joined_step l k hlt)
   have h1 := total_take_le l (k + 1)
   rw [hs.out] at h1
   have hsrc := src_bytes (lift hd hb)
   have hone := byteCells_one l[k].data
   generalize l[k].data = D at *
   generalize joined (l.take k) = J at *
   generalize total (l.take k) = t at *
   have HSRC := hid hsrc; clear hsrc hd
   have HONE := hid hone; clear hone
   have hbs := hb.size
   have i1 : (k : Int) < (l.length : Int) := by omega
   go_wp2_with (at_builtin; refine wpList_append_src rfl _ _ _ rfl w.heap.size 5 i0 (.int .u8 0) 1 1 Tryz.underlying28 hi hz0 hz1 hz2 rfl (by decide) _ t _ rfl hown a2 D.length c2 (byteCells D) rfl HSRC.out HONE.out (by simp only [maxLen]; omega) (by omega) hbs ?_; intro v1 w1 hown1 hgrow1 hat1)
   go_roundw
   case rel =>
    refine ⟨k + 1, by omega, by go_num, ?_, ?_⟩
    ·rw [hs.out, hj.out, byteCells, List.map_append]; exact hown1
    ·exact hb.grown hgrow1 hbs (fun g e => (hown.lt g e).1)
   case measure => simp [intOf]; omega
  ·obtain rfl : k = l.length := by omega
   rw [List.take_length] at hown
   have hv := own_bytes (joined_length l).symm hown
   have HV := hid hv; clear hv
   go_wp2
   go_ret
   exact ⟨_, rfl, HV.out, hb⟩
end Go.Proofs.YtkipiefcnjfdjaaGreat
namespace Go.Proofs.YtkipiefcnjfdjaaGreat
open Go.RowKit Go.Bs
set_option linter.unusedVariables false
set_option linter.unusedSimpArgs false
set_option maxHeartbeats 800000 in
theorem batch_fits (base : Int) (n : Nat) (w : World) (h0 : 0 ≤ base ∧ base ≤ 18446744073709551615) (hn : n ≤ 1000000000000) :
  Calls Tryz.prog 79 #[.int .u64 base, .int .i64 n] w fun r w' => r = .returned (.bool (fitsR base n)) ∧ w = w' := by
 by_cases c1 : 1 ≤ n
 ·have d1 : decide ((1 : Int) ≤ (n : Int)) = true := by simp; omega
  by_cases c2 : n ≤ 16
  ·have d2 : decide ((n : Int) ≤ 16) = true := by simp; omega
   by_cases c3 : base < 4611686018427387904
   ·have hp : poR base = true := by simp [poR, c3]
    have hc := epoch_pos base
    rw [hp] at hc
    have HC := hid hc; clear hc hp
    by_cases c4 : base + n ≤ 4611686018427387904
    ·have hff : Hid (fitsR base n = true) := hid (by simp [fitsR]; omega)
     have d4 : decide (base + (n : Int) ≤ 4611686018427387904) = true := by simp; omega
     clear c1 c2
     go_enter Tryz.func79, Tryz.ntmps79
     go_wp2_with (go_at_call 132; refine (HC.out _).mono ?_; rintro e w' ⟨rfl, rfl⟩)
     go_ret
     exact ⟨by rw [hff.out]; rfl, rfl⟩
    ·have hff : Hid (fitsR base n = false) := hid (by simp [fitsR]; omega)
     have d4 : decide (base + (n : Int) ≤ 4611686018427387904) = false := by simp; omega
     go_enter Tryz.func79, Tryz.ntmps79
     go_wp2_with (go_at_call 132; refine (HC.out _).mono ?_; rintro e w' ⟨rfl, rfl⟩)
     go_ret
     exact ⟨by rw [hff.out]; rfl, rfl⟩
   ·have hff : Hid (fitsR base n = false) := hid (by simp [fitsR]; omega)
    have hp : poR base = false := by simp [poR]; omega
    have hc := epoch_pos base
    rw [hp] at hc
    have HC := hid hc; clear hc hp
    go_enter Tryz.func79, Tryz.ntmps79
    go_wp2_with (go_at_call 132; refine (HC.out _).mono ?_; rintro e w' ⟨rfl, rfl⟩)
    go_ret
    exact ⟨by rw [hff.out]; rfl, rfl⟩
  ·have hff : Hid (fitsR base n = false) := hid (by simp [fitsR]; omega)
   have d2 : decide ((n : Int) ≤ 16) = false := by simp; omega
   go_enter Tryz.func79, Tryz.ntmps79
   go_wp2
   go_ret
   exact ⟨by rw [hff.out]; rfl, rfl⟩
 ·have hff : Hid (fitsR base n = false) := hid (by simp [fitsR]; omega)
  have d1 : decide ((1 : Int) ≤ (n : Int)) = false := by simp; omega
  go_enter Tryz.func79, Tryz.ntmps79
  go_wp2
  go_ret
  exact ⟨by rw [hff.out]; rfl, rfl⟩
set_option maxHeartbeats 800000 in
theorem ref25_fits (base : Int) (n : Nat) (w : World) (h0 : 0 ≤ base ∧ base ≤ 18446744073709551615) (hn : n ≤ 1000000000000) :
  Calls Tryz.prog 83 #[.int .u64 base, .int .i64 n] w fun r w' => r = .returned (.bool (fitsR base n)) ∧ w = w' := by
 by_cases c1 : 1 ≤ n
 ·have d1 : decide ((1 : Int) ≤ (n : Int)) = true := by simp; omega
  by_cases c2 : n ≤ 16
  ·have d2 : decide ((n : Int) ≤ 16) = true := by simp; omega
   by_cases c3 : base < 4611686018427387904
   ·have hp : poR base = true := by simp [poR, c3]
    have hc := ref17_pos base
    rw [hp] at hc
    have HC := hid hc; clear hc hp
    by_cases c4 : base + n ≤ 4611686018427387904
    ·have hff : Hid (fitsR base n = true) := hid (by simp [fitsR]; omega)
     have d4 : decide ((n : Int) ≤ 4611686018427387904 - base) = true := by simp; omega
     clear c1 c2
     go_enter Tryz.func83, Tryz.ntmps83
     go_wp2_with (go_at_call 139; refine (HC.out _).mono ?_; rintro e w' ⟨rfl, rfl⟩)
     go_ret
     exact ⟨by rw [hff.out]; rfl, rfl⟩
    ·have hff : Hid (fitsR base n = false) := hid (by simp [fitsR]; omega)
     have d4 : decide ((n : Int) ≤ 4611686018427387904 - base) = false := by simp; omega
     go_enter Tryz.func83, Tryz.ntmps83
     go_wp2_with (go_at_call 139; refine (HC.out _).mono ?_; rintro e w' ⟨rfl, rfl⟩)
     go_ret
     exact ⟨by rw [hff.out]; rfl, rfl⟩
   ·have hff : Hid (fitsR base n = false) := hid (by simp [fitsR]; omega)
    have hp : poR base = false := by simp [poR]; omega
    have hc := ref17_pos base
    rw [hp] at hc
    have HC := hid hc; clear hc hp
    go_enter Tryz.func83, Tryz.ntmps83
    go_wp2_with (go_at_call 139; refine (HC.out _).mono ?_; rintro e w' ⟨rfl, rfl⟩)
    go_ret
    exact ⟨by rw [hff.out]; rfl, rfl⟩
  ·have hff : Hid (fitsR base n = false) := hid (by simp [fitsR]; omega)
   have d2 : decide ((n : Int) ≤ 16) = false := by simp; omega
   go_enter Tryz.func83, Tryz.ntmps83
   go_wp2
   go_ret
   exact ⟨by rw [hff.out]; rfl, rfl⟩
 ·have hff : Hid (fitsR base n = false) := hid (by simp [fitsR]; omega)
  have d1 : decide ((1 : Int) ≤ (n : Int)) = false := by simp; omega
  go_enter Tryz.func83, Tryz.ntmps83
  go_wp2
  go_ret
  exact ⟨by rw [hff.out]; rfl, rfl⟩
theorem entriesR_step (base : Int) (l : List Entry) (k : Nat) (h : k < l.length) : entriesR (base + k) (l.drop k) = (entryR (base + k) l[k] && entriesR (base + (k + 1 : Nat)) (l.drop (k + 1))) := by
 rw [List.drop_eq_getElem_cons h]
 show (_ && _) = _
 rw [show base + (k : Int) + 1 = base + ((k + 1 : Nat) : Int) from by omega]
def Fair (l : List Entry) : Prop := total l ≤ 1000000000000 ∧ l.length ≤ 1000000000000 ∧ ∀ e ∈ l, ∀ x ∈ e.links, x.backs.length ≤ 1000000000000
set_option maxHeartbeats 3200000 in
theorem batch_right (x : Batch) (a : Option Addr) (n c : Nat) (w : World) (h0 : 0 ≤ x.epoch ∧ x.epoch ≤ 18446744073709551615) (h1 : 0 ≤ x.base ∧ x.base ≤ 18446744073709551615) (hl : rEntries.r (· < w.heap.size) w [.slice a n c] x.entries) (hfair : Fair x.entries) :
  Calls Tryz.prog 22 #[.agg #[.int .u64 x.epoch, .int .u64 x.base, .slice a n c]] w fun r w' => r = .returned (.bool (batchR x)) ∧ Below w.heap.size w w' := by
 obtain ⟨rfl, hm, _, _⟩ := sl_len hl
 obtain ⟨ft, fl, fb⟩ := hfair
 have FB := hid fb; clear fb
 have HL := hid hl; clear hl
 go_enter Tryz.func22, Tryz.ntmps22
 go_wp2_with fail
 refine (epoch_right x.epoch _).mono ?_
 rintro e w' ⟨rfl, rfl⟩
 cases he : epR x.epoch
 ·have hff : Hid (batchR x = false) := hid (by simp [batchR, he])
  clear he
  go_wp2
  go_ret
  exact ⟨by rw [hff.out]; rfl, by (repeat first | exact zR | assumption | apply zA | apply zS | apply zD | apply zN | refine zT (by assumption) ?_ | omega | simp <;> omega)⟩
 ·go_wp2_with fail
  refine (batch_fits x.base x.entries.length _ h1 fl).mono ?_
  rintro e w' ⟨rfl, rfl⟩
  cases hf : fitsR x.base x.entries.length
  ·have hff : Hid (batchR x = false) := hid (by simp [batchR, hf])
   clear hf he
   go_wp2
   go_ret
   exact ⟨by rw [hff.out]; rfl, by (repeat first | exact zR | assumption | apply zA | apply zS | apply zD | apply zN | refine zT (by assumption) ?_ | omega | simp <;> omega)⟩
  ·have hfit : 1 ≤ x.entries.length ∧ x.entries.length ≤ 16 ∧ x.base < 4611686018427387904 ∧ x.base + x.entries.length ≤ 4611686018427387904 := by simpa [fitsR] using hf
   obtain ⟨q1, q2, q3, q4⟩ := hfit
   have hff : Hid (batchR x = (decide (total x.entries ≤ 1048576) && entriesR x.base x.entries)) := hid (by simp [batchR, hf, he])
   clear hf he
   go_wp2_with fail
   refine (entry_total x.entries _ _ _ _ (lift HL.out (by (repeat first | exact zR | assumption | apply zA | apply zS | apply zD | apply zN | refine zT (by assumption) ?_ | omega | simp <;> omega))) ft).mono ?_
   rintro e w1 ⟨rfl, hb1⟩
   have hb2 : Below w.heap.size w w1 := by (repeat first | exact zR | assumption | apply zA | apply zS | apply zD | apply zN | refine zT (by assumption) ?_ | omega | simp <;> omega)
   obtain ⟨hc1, hf1⟩ := bcell hb1
   by_cases ht : total x.entries ≤ 1048576
   ·have hf2 : Hid (batchR x = entriesR (x.base + (0 : Nat)) (x.entries.drop 0)) := hid (by rw [hff.out, decide_eq_true ht]; simp)
    have d5 : decide (1048576 < (total x.entries : Int)) = false := by simp; omega
    have s0 : w1.cell? ⟨w.heap.size, 0, none⟩ = some (.int .u64 x.epoch) := (hc1 w.heap.size 0 (by simp)).trans (by go_simp)
    have s1 : w1.cell? ⟨w.heap.size, 1, none⟩ = some (.int .u64 x.base) := (hc1 w.heap.size 1 (by simp)).trans (by go_simp)
    have s2 : w1.cell? ⟨w.heap.size, 2, none⟩ = some (.slice a x.entries.length c) := (hc1 w.heap.size 2 (by simp)).trans (by go_simp)
    clear hc1 hf1
    have hzb : w.heap.size < w1.heap.size := by have := hb1.size; simp at this; omega
    go_wp2_with fail
    go_loopw [27] (fun i wr => ∃ k : Nat, k ≤ x.entries.length ∧ i = .int .i64 k ∧ Hid (batchR x = entriesR (x.base + k) (x.entries.drop k)) ∧ Below w1.heap.size w1 wr) (fun i _ => x.entries.length - (intOf i).toNat)
    case atStart => exact ⟨0, Nat.zero_le _, rfl, hf2, Below.refl _ _⟩
    case round =>
     obtain ⟨k, hk, rfl, hf, hb⟩ := hrel
     have hb3 := below_then hb hb2
     have t0 : wr.cell? ⟨w.heap.size, 0, none⟩ = some (.int .u64 x.epoch) := (Later.mk wr hb).cell s0
     have t1 : wr.cell? ⟨w.heap.size, 1, none⟩ = some (.int .u64 x.base) := (Later.mk wr hb).cell s1
     have t2 : wr.cell? ⟨w.heap.size, 2, none⟩ = some (.slice a x.entries.length c) := (Later.mk wr hb).cell s2
     have hz3 : w.heap.size < wr.heap.size := by have := hb.size; omega
     by_cases hlt : k < x.entries.length
     ·obtain ⟨b, o, hA, hbb, a1, c1, a2, c2, hd0, hd1, hr1, hr2⟩ := entry_at HL.out hlt
      subst hA
      have hst := hid (entriesR_step x.base x.entries k hlt)
      have hbk := FB.out _ (List.getElem_mem hlt)
      have X0 := (hb3.cell (p := ⟨b, o + k * 2, none⟩) hbb).trans hd0
      have X1 := (hb3.cell (p := ⟨b, o + k * 2 + 1, none⟩) hbb).trans hd1
      clear hd0 hd1
      have R1 := hid (lift hr1 hb3)
      have R2 := hid (lift hr2 hb3)
      clear hr1 hr2
      generalize hz : x.entries[k] = z at *
      clear hz
      have HBK := hid hbk; clear hbk
      have i1 : (k : Int) < (x.entries.length : Int) := by omega
      have p0 : 0 ≤ x.base + (k : Int) := by omega
      have p1 : x.base + (k : Int) ≤ 18446744073709551615 := by omega
      go_wp2_with fail
      refine (entry_right (x.base + (k : Int)) z _ _ _ _ _ _ _ ⟨p0, p1⟩ HBK.out (lift R1.out (by (repeat first | exact zR | assumption | apply zA | apply zS | apply zD | apply zN | refine zT (by assumption) ?_ | omega | simp <;> omega))) (lift R2.out (by (repeat first | exact zR | assumption | apply zA | apply zS | apply zD | apply zN | refine zT (by assumption) ?_ | omega | simp <;> omega)))).mono ?_
      rintro e w4 ⟨rfl, hb4⟩
      have hb5 : Below w1.heap.size w1 w4 := by (repeat first | exact zR | assumption | apply zA | apply zS | apply zD | apply zN | refine zT (by assumption) ?_ | omega | simp <;> omega)
      cases hr : entryR (x.base + (k : Int)) z
      ·have hf3 : Hid (batchR x = false) := hid (by rw [hf.out, hst.out, hr]; rfl)
       clear hr
       go_wp2
       go_ret
       exact ⟨by rw [hf3.out]; rfl, below_then hb5 hb2⟩
      ·have hf3 : Hid (batchR x = entriesR (x.base + (k + 1 : Nat)) (x.entries.drop (k + 1))) := hid (by rw [hf.out, hst.out, hr]; rfl)
       clear hr
       go_wp2
       go_roundw
       case rel => exact ⟨k + 1, by omega, by go_num, hf3, hb5⟩
       case measure => simp [intOf]; omega
     ·obtain rfl : k = x.entries.length := by omega
      have hf3 : Hid (batchR x = true) := hid (by rw [hf.out, List.drop_length]; rfl)
      go_wp2
      go_ret
      exact ⟨by rw [hf3.out]; rfl, hb3⟩
   ·have hf2 : Hid (batchR x = false) := hid (by rw [hff.out, decide_eq_false ht]; rfl)
    have d5 : decide (1048576 < (total x.entries : Int)) = true := by simp; omega
    go_wp2
    go_ret
    exact ⟨by rw [hf2.out]; rfl, hb2⟩
set_option maxHeartbeats 3200000 in
theorem ref25_right (x : Batch) (a : Option Addr) (n c : Nat) (w : World) (h0 : 0 ≤ x.epoch ∧ x.epoch ≤ 18446744073709551615) (h1 : 0 ≤ x.base ∧ x.base ≤ 18446744073709551615) (hl : rEntries.r (· < w.heap.size) w [.slice a n c] x.entries) (hfair : Fair x.entries) :
  Calls Tryz.prog 23 #[.agg #[.int .u64 x.epoch, .int .u64 x.base, .slice a n c]] w fun r w' => r = .returned (.bool (batchR x)) ∧ Below w.heap.size w w' := by
 obtain ⟨rfl, hm, _, _⟩ := sl_len hl
 obtain ⟨ft, fl, fb⟩ := hfair
 have FB := hid fb; clear fb
 have HL := hid hl; clear hl
 go_enter Tryz.func23, Tryz.ntmps23
 go_wp2_with fail
 refine (ref17_right x.epoch h0.1 _).mono ?_
 rintro e w' ⟨rfl, rfl⟩
 cases he : epR x.epoch
 ·have hff : Hid (batchR x = false) := hid (by simp [batchR, he])
  clear he
  go_wp2
  go_ret
  exact ⟨by rw [hff.out]; rfl, by (repeat first | exact zR | assumption | apply zA | apply zS | apply zD | apply zN | refine zT (by assumption) ?_ | omega | simp <;> omega)⟩
 ·go_wp2_with fail
  refine (ref25_fits x.base x.entries.length _ h1 fl).mono ?_
  rintro e w' ⟨rfl, rfl⟩
  cases hf : fitsR x.base x.entries.length
  ·have hff : Hid (batchR x = false) := hid (by simp [batchR, hf])
   clear hf he
   go_wp2
   go_ret
   exact ⟨by rw [hff.out]; rfl, by (repeat first | exact zR | assumption | apply zA | apply zS | apply zD | apply zN | refine zT (by assumption) ?_ | omega | simp <;> omega)⟩
  ·have hfit : 1 ≤ x.entries.length ∧ x.entries.length ≤ 16 ∧ x.base < 4611686018427387904 ∧ x.base + x.entries.length ≤ 4611686018427387904 := by simpa [fitsR] using hf
   obtain ⟨q1, q2, q3, q4⟩ := hfit
   have hff : Hid (batchR x = (decide (total x.entries ≤ 1048576) && entriesR x.base x.entries)) := hid (by simp [batchR, hf, he])
   clear hf he
   go_wp2_with fail
   refine (ref24_join x.entries _ _ _ _ (lift HL.out (by (repeat first | exact zR | assumption | apply zA | apply zS | apply zD | apply zN | refine zT (by assumption) ?_ | omega | simp <;> omega))) ft).mono ?_
   rintro e w1 ⟨v, rfl, hvr, hb1⟩
   obtain ⟨av, cv, hv, _, _⟩ := sl_form hvr
   simp only [List.cons.injEq, and_true] at hv
   subst hv
   rw [joined_length]
   clear hvr
   have hb2 : Below w.heap.size w w1 := by (repeat first | exact zR | assumption | apply zA | apply zS | apply zD | apply zN | refine zT (by assumption) ?_ | omega | simp <;> omega)
   obtain ⟨hc1, hf1⟩ := bcell hb1
   by_cases ht : total x.entries ≤ 1048576
   ·have hf2 : Hid (batchR x = entriesR (x.base + (0 : Nat)) (x.entries.drop 0)) := hid (by rw [hff.out, decide_eq_true ht]; simp)
    have d5 : decide (1048576 < (total x.entries : Int)) = false := by simp; omega
    have s0 : w1.cell? ⟨w.heap.size, 0, none⟩ = some (.int .u64 x.epoch) := (hc1 w.heap.size 0 (by simp)).trans (by go_simp)
    have s1 : w1.cell? ⟨w.heap.size, 1, none⟩ = some (.int .u64 x.base) := (hc1 w.heap.size 1 (by simp)).trans (by go_simp)
    have s2 : w1.cell? ⟨w.heap.size, 2, none⟩ = some (.slice a x.entries.length c) := (hc1 w.heap.size 2 (by simp)).trans (by go_simp)
    clear hc1 hf1
    have hzb : w.heap.size < w1.heap.size := by have := hb1.size; simp at this; omega
    go_wp2_with fail
    go_loopw [3] (fun i wr => ∃ k : Nat, k ≤ x.entries.length ∧ i = .int .i64 k ∧ Hid (batchR x = entriesR (x.base + k) (x.entries.drop k)) ∧ Below w1.heap.size w1 wr) (fun i _ => x.entries.length - (intOf i).toNat)
    case atStart => exact ⟨0, Nat.zero_le _, rfl, hf2, Below.refl _ _⟩
    case round =>
     obtain ⟨k, hk, rfl, hf, hb⟩ := hrel
     have hb3 := below_then hb hb2
     have t0 : wr.cell? ⟨w.heap.size, 0, none⟩ = some (.int .u64 x.epoch) := (Later.mk wr hb).cell s0
     have t1 : wr.cell? ⟨w.heap.size, 1, none⟩ = some (.int .u64 x.base) := (Later.mk wr hb).cell s1
     have t2 : wr.cell? ⟨w.heap.size, 2, none⟩ = some (.slice a x.entries.length c) := (Later.mk wr hb).cell s2
     have hz3 : w.heap.size < wr.heap.size := by have := hb.size; omega
     by_cases hlt : k < x.entries.length
     ·obtain ⟨b, o, hA, hbb, a1, c1, a2, c2, hd0, hd1, hr1, hr2⟩ := entry_at HL.out hlt
      subst hA
      have hst := hid (entriesR_step x.base x.entries k hlt)
      have hbk := FB.out _ (List.getElem_mem hlt)
      have X0 := (hb3.cell (p := ⟨b, o + k * 2, none⟩) hbb).trans hd0
      have X1 := (hb3.cell (p := ⟨b, o + k * 2 + 1, none⟩) hbb).trans hd1
      clear hd0 hd1
      have R1 := hid (lift hr1 hb3)
      have R2 := hid (lift hr2 hb3)
      clear hr1 hr2
      generalize hz : x.entries[k] = z at *
      clear hz
      have HBK := hid hbk; clear hbk
      have i1 : (k : Int) < (x.entries.length : Int) := by omega
      have p0 : 0 ≤ x.base + (k : Int) := by omega
      have p1 : x.base + (k : Int) ≤ 18446744073709551615 := by omega
      have T1 := fun s : Later wr => s.cell t1
      have T2 := fun s : Later wr => s.cell t2
      have Y0 := fun s : Later wr => s.cell X0
      have Y1 := fun s : Later wr => s.cell X1
      have hE := fun s : Later wr => ref24_right (x.base + (k : Int)) z a1 a2 _ c1 _ c2 s.at_ (lift R1.out s.below) (lift R2.out s.below)
      cases hr : entryR (x.base + (k : Int)) z
      ·have hf3 : Hid (batchR x = false) := hid (by rw [hf.out, hst.out, hr]; rfl)
       rw [hr] at hE
       have HE := hid hE; clear hE hr
       go_wp2_with fail
       refine wp_region_later (by kernel_rfl) (by kernel_rfl) ?_
       repeat (go_big_quiet_step (((go_at_call 85; exact later_of (HE.out _)))))
       refine wpQuiet_nil ?_
       rintro W5 ⟨⟨W5', hb5⟩, rfl⟩
       go_wp2
       go_ret
       exact ⟨by rw [hf3.out]; rfl, below_then hb5 hb3⟩
      ·have hf3 : Hid (batchR x = entriesR (x.base + (k + 1 : Nat)) (x.entries.drop (k + 1))) := hid (by rw [hf.out, hst.out, hr]; rfl)
       rw [hr] at hE
       have HE := hid hE; clear hE hr
       go_wp2_with fail
       refine wp_region_later (by kernel_rfl) (by kernel_rfl) ?_
       repeat (go_big_quiet_step (((go_at_call 85; exact later_of (HE.out _)))))
       refine wpQuiet_nil ?_
       rintro W5 ⟨⟨W5', hb5⟩, rfl⟩
       go_wp2
       go_roundw
       case rel => exact ⟨k + 1, by omega, by go_num, hf3, below_then hb5 hb⟩
       case measure => simp [intOf]; omega
     ·obtain rfl : k = x.entries.length := by omega
      have hf3 : Hid (batchR x = true) := hid (by rw [hf.out, List.drop_length]; rfl)
      go_wp2
      go_ret
      exact ⟨by rw [hf3.out]; rfl, hb3⟩
   ·have hf2 : Hid (batchR x = false) := hid (by rw [hff.out, decide_eq_false ht]; rfl)
    have d5 : decide (1048576 < (total x.entries : Int)) = true := by simp; omega
    go_wp2
    go_ret
    exact ⟨by rw [hf2.out]; rfl, hb2⟩
end Go.Proofs.YtkipiefcnjfdjaaGreat
namespace Go.Proofs.YtkipiefcnjfdjaaGreat
open Go.RowKit Go.Bs
set_option linter.unusedVariables false
set_option linter.unusedSimpArgs false
def mayR (e : Int) (prev : Option Batch) (b : Batch) : Bool := decide (b.epoch ≤ e) && (match prev with | none => true | some p => decide (p.epoch ≤ b.epoch) && decide (p.base + p.entries.length ≤ b.base))
def chainR (e : Int) : Option Batch → List Batch → Bool
 | _, [] => true
 | p, b :: l => batchR b && (mayR e p b && chainR e (some b) l)
def segR (g : Seg) : Bool := epR g.epoch && (decide (g.batches.length ≤ 16) && chainR g.epoch none g.batches)
def prevB (l : List Batch) (k : Nat) : Option Batch := if k = 0 then none else l[k - 1]?
theorem chainR_step (e : Int) (l : List Batch) (k : Nat) (h : k < l.length) : chainR e (prevB l k) (l.drop k) = (batchR l[k] && (mayR e (prevB l k) l[k] && chainR e (prevB l (k + 1)) (l.drop (k + 1)))) := by
 rw [List.drop_eq_getElem_cons h]
 have : prevB l (k + 1) = some l[k] := by unfold prevB; rw [if_neg (by omega)]; simp [h]
 rw [this]; rfl
theorem sl_take {α : Type} {sz : Nat} {A : Rp α} {S : Nat → Prop} {w : World} {xs : List α} {a : Option Addr} {n c k : Nat} (h : (rSl sz A).r S w [.slice a n c] xs) (hk : k ≤ xs.length) : (rSl sz A).r S w [.slice a k c] (xs.take k) := by
 obtain ⟨a', c', e, h1, h2, h3⟩ := h
 simp at e
 obtain ⟨rfl, rfl, rfl⟩ := e
 have hl : (xs.take k).length = k := by simp; omega
 refine rSl_mk (by rw [hl]) (by omega) h2 ?_
 rcases h3 with rfl | ⟨b, off, rfl, hS, hr⟩
 ·exact .inl (by simp)
 ·refine .inr ⟨b, off, rfl, hS, fun i x hi => hr i x ?_⟩
  rw [List.getElem?_take] at hi
  split at hi
  ·exact hi
  ·cases hi
set_option maxHeartbeats 400000 in
theorem batch_end (e b : Int) (a : Option Addr) (n c : Nat) (w : World) (h0 : 0 ≤ b) (h : b + n ≤ 18446744073709551615) (hn : n ≤ 9223372036854775807) :
  Calls Tryz.prog 24 #[.agg #[.int .u64 e, .int .u64 b, .slice a n c]] w fun r w' => r = .returned (.int .u64 (b + n)) ∧ Below w.heap.size w w' := by
 go_enter Tryz.func24, Tryz.ntmps24
 go_wp2
 go_ret
 exact ⟨rfl, by (repeat first | exact zR | assumption | apply zA | apply zS | apply zD | apply zN | refine zT (by assumption) ?_ | omega | simp <;> omega)⟩
set_option maxHeartbeats 1600000 in
theorem seg_follows (e : Int) (l : List Batch) (x : Batch) (a a' : Option Addr) (n c n' c' : Nat) (w : World) (hl : rBatches.r (· < w.heap.size) w [.slice a n c] l) (hp : ∀ p ∈ l, p.base + p.entries.length ≤ 18446744073709551615) :
  Calls Tryz.prog 106 #[.agg #[.int .u64 e, .slice a n c], .agg #[.int .u64 x.epoch, .int .u64 x.base, .slice a' n' c']] w fun r w' => r = .returned (.bool (mayR e (prevB l l.length) x)) ∧ Below w.heap.size w w' := by
 obtain ⟨rfl, hm, _, _⟩ := sl_len hl
 have HL := hid hl; clear hl
 have HP := hid hp; clear hp
 by_cases h1 : e < x.epoch
 ·have hff : Hid (mayR e (prevB l l.length) x = false) := hid (by simp only [mayR]; rw [decide_eq_false (by omega)]; rfl)
  go_enter Tryz.func106, Tryz.ntmps106
  go_wp2
  go_ret
  exact ⟨by rw [hff.out]; rfl, by (repeat first | exact zR | assumption | apply zA | apply zS | apply zD | apply zN | refine zT (by assumption) ?_ | omega | simp <;> omega)⟩
 ·by_cases h2 : l.length = 0
  ·have hff : Hid (mayR e (prevB l l.length) x = true) := hid (by simp only [mayR]; rw [decide_eq_true (by omega), h2]; rfl)
   have e2 : ((l.length : Int) == 0) = true := by simp [h2]
   clear h2
   go_enter Tryz.func106, Tryz.ntmps106
   go_wp2_with fail
   go_quiet (fail)
   go_wp2
   go_ret
   exact ⟨by rw [hff.out]; rfl, by (repeat first | exact zR | assumption | apply zA | apply zS | apply zD | apply zN | refine zT (by assumption) ?_ | omega | simp <;> omega)⟩
  ·obtain ⟨m, hmm⟩ : ∃ m, l.length = m + 1 := ⟨l.length - 1, by omega⟩
   obtain ⟨b, o, hA, hbb, a1, c1, hd0, hd1, hd2, r0, r1, hd⟩ := batch_at HL.out (show m < l.length by omega)
   have hpm := HP.out _ (List.getElem_mem (show m < l.length by omega))
   obtain ⟨_, hm2, _, _⟩ := sl_len hd
   have hprev : prevB l (m + 1) = some l[m] := by unfold prevB; rw [if_neg (by omega)]; simp [show m < l.length by omega]
   generalize hz : l[m] = z at *
   clear hz hd
   have hff : Hid (mayR e (prevB l l.length) x = (decide (z.epoch ≤ x.epoch) && decide (z.base + z.entries.length ≤ x.base))) := hid (by simp only [mayR]; rw [decide_eq_true (by omega), hmm, hprev]; rfl)
   subst hA
   have i4 : wrap64 (m : Int) = m := by simp only [wrap64]; omega
   have HMM := hid hmm
   rw [hmm]
   clear h2 hprev hmm
   have e2 : ((m : Int) + 1 == 0) = false := by simp; omega
   have i2 : (0 : Int) ≤ (m : Int) := by omega
   have i3 : (m : Int) < (m : Int) + 1 := by omega
   have F : Below w.heap.size w ((w.alloc (.cells #[.int .u64 e, .slice (some ⟨b, o, none⟩) (m + 1) c] 62)).alloc (.cells #[.int .u64 x.epoch, .int .u64 x.base, .slice a' n' c'] 25)) := by (repeat first | exact zR | assumption | apply zA | apply zS | apply zD | apply zN | refine zT (by assumption) ?_ | omega | simp <;> omega)
   have X0 := fun s : Later ((w.alloc (.cells #[.int .u64 e, .slice (some ⟨b, o, none⟩) (m + 1) c] 62)).alloc (.cells #[.int .u64 x.epoch, .int .u64 x.base, .slice a' n' c'] 25)) => s.cell ((F.cell (p := ⟨b, o + m * 3, none⟩) hbb).trans hd0)
   have X1 := fun s : Later ((w.alloc (.cells #[.int .u64 e, .slice (some ⟨b, o, none⟩) (m + 1) c] 62)).alloc (.cells #[.int .u64 x.epoch, .int .u64 x.base, .slice a' n' c'] 25)) => s.cell ((F.cell (p := ⟨b, o + m * 3 + 1, none⟩) hbb).trans hd1)
   have X2 := fun s : Later ((w.alloc (.cells #[.int .u64 e, .slice (some ⟨b, o, none⟩) (m + 1) c] 62)).alloc (.cells #[.int .u64 x.epoch, .int .u64 x.base, .slice a' n' c'] 25)) => s.cell ((F.cell (p := ⟨b, o + m * 3 + 2, none⟩) hbb).trans hd2)
   have Y0 := fun s : Later ((w.alloc (.cells #[.int .u64 e, .slice (some ⟨b, o, none⟩) (m + 1) c] 62)).alloc (.cells #[.int .u64 x.epoch, .int .u64 x.base, .slice a' n' c'] 25)) => s.cell (v := .slice (some ⟨b, o, none⟩) (m + 1) c) (b := w.heap.size) (o := 1) (by go_simp)
   have Y1 := fun s : Later ((w.alloc (.cells #[.int .u64 e, .slice (some ⟨b, o, none⟩) (m + 1) c] 62)).alloc (.cells #[.int .u64 x.epoch, .int .u64 x.base, .slice a' n' c'] 25)) => s.cell (v := .int .u64 x.epoch) (b := w.heap.size + 1) (o := 0) (by go_simp)
   have Y2 := fun s : Later ((w.alloc (.cells #[.int .u64 e, .slice (some ⟨b, o, none⟩) (m + 1) c] 62)).alloc (.cells #[.int .u64 x.epoch, .int .u64 x.base, .slice a' n' c'] 25)) => s.cell (v := .int .u64 x.base) (b := w.heap.size + 1) (o := 1) (by go_simp)
   clear hd0 hd1 hd2
   have FF := hid F; clear F
   have hE := fun s : Later ((w.alloc (.cells #[.int .u64 e, .slice (some ⟨b, o, none⟩) (m + 1) c] 62)).alloc (.cells #[.int .u64 x.epoch, .int .u64 x.base, .slice a' n' c'] 25)) => batch_end z.epoch z.base a1 z.entries.length c1 s.at_ r1.1 hpm hm2
   have HE := hid hE; clear hE
   by_cases g1 : z.epoch ≤ x.epoch
   ·have d1 : decide (z.epoch ≤ x.epoch) = true := by simpa using g1
    have hf2 : Hid (mayR e (prevB l l.length) x = decide (z.base + z.entries.length ≤ x.base)) := hid (by rw [hff.out, d1]; rfl)
    go_enter Tryz.func106, Tryz.ntmps106
    go_wp2_with fail
    refine wp_region_later (by kernel_rfl) (by kernel_rfl) ?_
    repeat (go_big_quiet_step (((go_at_call 24; exact later_of (HE.out _)))))
    refine wpQuiet_nil ?_
    rintro W5 ⟨⟨W5', hb5⟩, rfl⟩
    go_wp2
    go_ret
    have FO := FF.out
    refine ⟨?_, by (repeat first | exact zR | assumption | apply zA | apply zS | apply zD | apply zN | refine zT (by assumption) ?_ | omega | simp <;> omega)⟩
    rw [← HMM.out, hf2.out]; rfl
   ·have d1 : decide (z.epoch ≤ x.epoch) = false := by simpa using g1
    have hf2 : Hid (mayR e (prevB l l.length) x = false) := hid (by rw [hff.out, d1]; rfl)
    clear g1
    go_enter Tryz.func106, Tryz.ntmps106
    go_wp2_with fail
    refine wp_region_later (by kernel_rfl) (by kernel_rfl) ?_
    repeat (go_big_quiet_step (fail))
    refine wpQuiet_nil ?_
    rintro W5 ⟨⟨W5', hb5⟩, rfl⟩
    go_wp2
    go_ret
    have FO := FF.out
    refine ⟨?_, by (repeat first | exact zR | assumption | apply zA | apply zS | apply zD | apply zN | refine zT (by assumption) ?_ | omega | simp <;> omega)⟩
    rw [← HMM.out, hf2.out]; rfl
end Go.Proofs.YtkipiefcnjfdjaaGreat
