/- The data of the log: links, entries, batches, segments; how cells stand for them; what well-formed means. No program in sight. -/
import Derived.Test.YtlkpnpbodbokkaaDoorRep
namespace Go.Bs
open Go.RowKit
set_option linter.unusedVariables false

structure Link where
  stream : Int
  backs : List Int
structure Entry where
  links : List Link
  data : List UInt8
structure Batch where
  epoch : Int
  base : Int
  entries : List Entry
structure Seg where
  epoch : Int
  batches : List Batch

def rU64s : Rp (List Int) := rSl 1 (rInt .u64)
def rBytes : Rp (List UInt8) := rSl 1 rByte
def rLink : Rp Link := rBy (fun l => (l.stream, l.backs)) (rPair (rInt .u64) rU64s)
def rLinks : Rp (List Link) := rSl 2 rLink
def rEntry : Rp Entry := rBy (fun e => (e.links, e.data)) (rPair rLinks rBytes)
def rEntries : Rp (List Entry) := rSl 2 rEntry
def rBatch : Rp Batch := rBy (fun b => (b.epoch, b.base, b.entries)) (rPair (rInt .u64) (rPair (rInt .u64) rEntries))
def rBatches : Rp (List Batch) := rSl 3 rBatch
def rSeg : Rp Seg := rBy (fun g => (g.epoch, g.batches)) (rPair (rInt .u64) rBatches)

section
variable {S : Nat → Prop} {w : World} {cs : List Value}

/-- A value that stands for a list: its form, its length. -/
theorem sl_form {α : Type} {sz : Nat} {A : Rp α} {xs : List α} (h : (rSl sz A).r S w cs xs) : ∃ a c, cs = [.slice a xs.length c] ∧ (rSl sz A).r S w [.slice a xs.length c] xs ∧ xs.length ≤ 9223372036854775807 := by
  obtain ⟨a, c, rfl, h1, h2, h3⟩ := h
  exact ⟨a, c, rfl, ⟨a, c, rfl, h1, h2, h3⟩, by unfold maxLen at h2; omega⟩
theorem sl_len {α : Type} {sz : Nat} {A : Rp α} {xs : List α} {a : Option Addr} {n c : Nat} (h : (rSl sz A).r S w [.slice a n c] xs) : n = xs.length ∧ xs.length ≤ 9223372036854775807 ∧ n ≤ c ∧ c ≤ 9223372036854775807 := by
  obtain ⟨a', c', e, h1, h2, h3⟩ := h
  simp at e
  obtain ⟨_, rfl, rfl⟩ := e
  exact ⟨rfl, by unfold maxLen at h2; omega, h1, h2⟩
/-- One of its elements. -/
theorem sl_at {α : Type} {sz : Nat} {A : Rp α} {xs : List α} {a : Option Addr} {n c : Nat} (h : (rSl sz A).r S w [.slice a n c] xs) {i : Nat} (hi : i < xs.length) :
    ∃ b off, a = some ⟨b, off, none⟩ ∧ S b ∧ ∃ cs : List Value, cs.length = sz ∧ (∀ j v, cs[j]? = some v → w.cell? ⟨b, off + i * sz + j, none⟩ = some v) ∧ A.r S w cs xs[i] := by
  obtain ⟨a', c', e, h1, h2, h3⟩ := h
  simp at e
  obtain ⟨rfl, rfl, rfl⟩ := e
  rcases h3 with rfl | ⟨b, off, rfl, hS, hr⟩
  · simp at hi
  · obtain ⟨cs, hl, hc, hA⟩ := hr i xs[i] (List.getElem?_eq_getElem hi)
    exact ⟨b, off, rfl, hS, cs, hl, hc, hA⟩

theorem link_cells {x : Link} (h : rLink.r S w cs x) : ∃ a c, cs = [.int .u64 x.stream, .slice a x.backs.length c] ∧ (0 ≤ x.stream ∧ x.stream ≤ 18446744073709551615) ∧ rU64s.r S w [.slice a x.backs.length c] x.backs := by
  obtain ⟨c1, c2, rfl, ⟨rfl, hw⟩, h2⟩ := h
  obtain ⟨a, c, rfl, h3, _⟩ := sl_form h2
  exact ⟨a, c, rfl, bounds_u64 hw, h3⟩
theorem entry_cells {x : Entry} (h : rEntry.r S w cs x) : ∃ a c a' c', cs = [.slice a x.links.length c, .slice a' x.data.length c'] ∧ rLinks.r S w [.slice a x.links.length c] x.links ∧ rBytes.r S w [.slice a' x.data.length c'] x.data := by
  obtain ⟨c1, c2, rfl, h1, h2⟩ := h
  obtain ⟨a, c, rfl, h3, _⟩ := sl_form h1
  obtain ⟨a', c', rfl, h4, _⟩ := sl_form h2
  exact ⟨a, c, a', c', rfl, h3, h4⟩
theorem batch_cells {x : Batch} (h : rBatch.r S w cs x) : ∃ a c, cs = [.int .u64 x.epoch, .int .u64 x.base, .slice a x.entries.length c] ∧ (0 ≤ x.epoch ∧ x.epoch ≤ 18446744073709551615) ∧ (0 ≤ x.base ∧ x.base ≤ 18446744073709551615) ∧ rEntries.r S w [.slice a x.entries.length c] x.entries := by
  obtain ⟨c1, c2, rfl, ⟨rfl, hw⟩, d1, d2, rfl, ⟨rfl, hw2⟩, h2⟩ := h
  obtain ⟨a, c, rfl, h3, _⟩ := sl_form h2
  exact ⟨a, c, rfl, bounds_u64 hw, bounds_u64 hw2, h3⟩
theorem seg_cells {x : Seg} (h : rSeg.r S w cs x) : ∃ a c, cs = [.int .u64 x.epoch, .slice a x.batches.length c] ∧ (0 ≤ x.epoch ∧ x.epoch ≤ 18446744073709551615) ∧ rBatches.r S w [.slice a x.batches.length c] x.batches := by
  obtain ⟨c1, c2, rfl, ⟨rfl, hw⟩, h2⟩ := h
  obtain ⟨a, c, rfl, h3, _⟩ := sl_form h2
  exact ⟨a, c, rfl, bounds_u64 hw, h3⟩

theorem u64_wf {n : Int} (h : 0 ≤ n ∧ n ≤ 18446744073709551615) : (Lit.int .u64 n).wf = true := by
  simp [Lit.wf, IntKind.min, IntKind.max, IntKind.signed, IntKind.bits]; omega
theorem link_mk {x : Link} {a : Option Addr} {n c : Nat} (h0 : 0 ≤ x.stream ∧ x.stream ≤ 18446744073709551615) (h : rU64s.r S w [.slice a n c] x.backs) : rLink.r S w [.int .u64 x.stream, .slice a n c] x := ⟨[_], [_], rfl, ⟨rfl, u64_wf h0⟩, h⟩
theorem entry_mk {x : Entry} {v v' : Value} (h1 : rLinks.r S w [v] x.links) (h2 : rBytes.r S w [v'] x.data) : rEntry.r S w [v, v'] x := ⟨[_], [_], rfl, h1, h2⟩
theorem batch_mk {x : Batch} {v : Value} (h0 : 0 ≤ x.epoch ∧ x.epoch ≤ 18446744073709551615) (h1 : 0 ≤ x.base ∧ x.base ≤ 18446744073709551615) (h : rEntries.r S w [v] x.entries) : rBatch.r S w [.int .u64 x.epoch, .int .u64 x.base, v] x :=
  ⟨[_], [_, _], rfl, ⟨rfl, u64_wf h0⟩, [_], [_], rfl, ⟨rfl, u64_wf h1⟩, h⟩
theorem seg_mk {x : Seg} {v : Value} (h0 : 0 ≤ x.epoch ∧ x.epoch ≤ 18446744073709551615) (h : rBatches.r S w [v] x.batches) : rSeg.r S w [.int .u64 x.epoch, v] x := ⟨[_], [_], rfl, ⟨rfl, u64_wf h0⟩, h⟩

/-- Elements by their cells. -/
theorem u64_at {xs : List Int} {a : Option Addr} {n c : Nat} (h : rU64s.r S w [.slice a n c] xs) {i : Nat} (hi : i < xs.length) : ∃ b off, a = some ⟨b, off, none⟩ ∧ S b ∧ w.cell? ⟨b, off + i, none⟩ = some (.int .u64 xs[i]) ∧ 0 ≤ xs[i] ∧ xs[i] ≤ 18446744073709551615 := by
  obtain ⟨b, off, e, hS, cs, _, hc, rfl, hw⟩ := sl_at h hi
  have := hc 0 _ rfl
  rw [Nat.mul_one, Nat.add_zero] at this
  exact ⟨b, off, e, hS, this, bounds_u64 hw⟩
theorem byte_at {xs : List UInt8} {a : Option Addr} {n c : Nat} (h : rBytes.r S w [.slice a n c] xs) {i : Nat} (hi : i < xs.length) : ∃ b off, a = some ⟨b, off, none⟩ ∧ S b ∧ w.cell? ⟨b, off + i, none⟩ = some (.int .u8 (xs[i].toNat : Int)) := by
  obtain ⟨b, off, e, hS, cs, _, hc, rfl⟩ := sl_at h hi
  have := hc 0 _ rfl
  rw [Nat.mul_one, Nat.add_zero] at this
  exact ⟨b, off, e, hS, this⟩
theorem link_at {xs : List Link} {a : Option Addr} {n c : Nat} (h : rLinks.r S w [.slice a n c] xs) {i : Nat} (hi : i < xs.length) : ∃ b off, a = some ⟨b, off, none⟩ ∧ S b ∧ ∃ a' c', w.cell? ⟨b, off + i * 2, none⟩ = some (.int .u64 xs[i].stream) ∧ w.cell? ⟨b, off + i * 2 + 1, none⟩ = some (.slice a' xs[i].backs.length c') ∧
    (0 ≤ xs[i].stream ∧ xs[i].stream ≤ 18446744073709551615) ∧ rU64s.r S w [.slice a' xs[i].backs.length c'] xs[i].backs := by
  obtain ⟨b, off, e, hS, cs, _, hc, hA⟩ := sl_at h hi
  obtain ⟨a', c', rfl, h1, h2⟩ := link_cells hA
  exact ⟨b, off, e, hS, a', c', hc 0 _ rfl, hc 1 _ rfl, h1, h2⟩
theorem entry_at {xs : List Entry} {a : Option Addr} {n c : Nat} (h : rEntries.r S w [.slice a n c] xs) {i : Nat} (hi : i < xs.length) : ∃ b off, a = some ⟨b, off, none⟩ ∧ S b ∧ ∃ a1 c1 a2 c2, w.cell? ⟨b, off + i * 2, none⟩ = some (.slice a1 xs[i].links.length c1) ∧ w.cell? ⟨b, off + i * 2 + 1, none⟩ = some (.slice a2 xs[i].data.length c2) ∧
    rLinks.r S w [.slice a1 xs[i].links.length c1] xs[i].links ∧ rBytes.r S w [.slice a2 xs[i].data.length c2] xs[i].data := by
  obtain ⟨b, off, e, hS, cs, _, hc, hA⟩ := sl_at h hi
  obtain ⟨a1, c1, a2, c2, rfl, h1, h2⟩ := entry_cells hA
  exact ⟨b, off, e, hS, a1, c1, a2, c2, hc 0 _ rfl, hc 1 _ rfl, h1, h2⟩
theorem batch_at {xs : List Batch} {a : Option Addr} {n c : Nat} (h : rBatches.r S w [.slice a n c] xs) {i : Nat} (hi : i < xs.length) : ∃ b off, a = some ⟨b, off, none⟩ ∧ S b ∧ ∃ a' c', w.cell? ⟨b, off + i * 3, none⟩ = some (.int .u64 xs[i].epoch) ∧ w.cell? ⟨b, off + i * 3 + 1, none⟩ = some (.int .u64 xs[i].base) ∧ w.cell? ⟨b, off + i * 3 + 2, none⟩ = some (.slice a' xs[i].entries.length c') ∧
    (0 ≤ xs[i].epoch ∧ xs[i].epoch ≤ 18446744073709551615) ∧ (0 ≤ xs[i].base ∧ xs[i].base ≤ 18446744073709551615) ∧ rEntries.r S w [.slice a' xs[i].entries.length c'] xs[i].entries := by
  obtain ⟨b, off, e, hS, cs, _, hc, hA⟩ := sl_at h hi
  obtain ⟨a', c', rfl, h1, h2, h3⟩ := batch_cells hA
  exact ⟨b, off, e, hS, a', c', hc 0 _ rfl, hc 1 _ rfl, hc 2 _ rfl, h1, h2, h3⟩
end

/-- What keeps a reading: nothing below has turned. -/
theorem lift {α : Type} {A : Rp α} {w w' : World} {cs : List Value} {x : α} (h : A.r (· < w.heap.size) w cs x) (hb : Below w.heap.size w w') : A.r (· < w'.heap.size) w' cs x :=
  A.mono (A.below h hb) fun b hlt => Nat.lt_of_lt_of_le hlt hb.size

/-! What is well-formed. -/
def epR (e : Int) : Bool := decide (1 ≤ e ∧ e < 4611686018427387904)
def poR (e : Int) : Bool := decide (e < 4611686018427387904)
def fallsB : Int → List Int → Bool
  | _, [] => true
  | b, x :: l => decide (x < b) && fallsB x l
def risesB : List Int → Bool
  | [] => true
  | [_] => true
  | x :: y :: l => decide (x < y) && risesB (y :: l)
def linkR (pos : Int) (x : Link) : Bool := decide (x.backs.length ≤ 4) && fallsB pos x.backs
def linksR (pos : Int) (l : List Link) : Bool := decide (l.length ≤ 16) && (risesB (l.map Link.stream) && l.all (linkR pos))
def entryR (pos : Int) (e : Entry) : Bool := linksR pos e.links && decide (e.data.length ≤ 1048576)
def total (l : List Entry) : Nat := (l.map fun e => e.data.length).sum
def entriesR : Int → List Entry → Bool
  | _, [] => true
  | p, e :: l => entryR p e && entriesR (p + 1) l
def fitsR (base : Int) (n : Nat) : Bool := decide (1 ≤ n ∧ n ≤ 16 ∧ base < 4611686018427387904 ∧ base + n ≤ 4611686018427387904)
def batchR (b : Batch) : Bool := epR b.epoch && (fitsR b.base b.entries.length && (decide (total b.entries ≤ 1048576) && entriesR b.base b.entries))
end Go.Bs
