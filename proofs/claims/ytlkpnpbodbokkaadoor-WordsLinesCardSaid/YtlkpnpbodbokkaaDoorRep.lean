/- How cells stand for plain data, whatever the program: bundled with what keeps them; and how an argument that can be read is opened. -/
import Derived.Test.YtlkpnpbodbokkaaDoorBase
import Derived.ProofKit
import Derived.OpenShut
import Derived.Deep.Slices
import Derived.Lib.SmallJoins
namespace Go.Bs
open Go.RowKit
set_option linter.unusedVariables false

/-- What cells stand for, looking at blocks of S alone. -/
structure Rp (α : Type) where
  r : (Nat → Prop) → World → List Value → α → Prop
  keep : ∀ {S : Nat → Prop} {w w' : World} {cs : List Value} {x : α}, r S w cs x → (∀ b, S b → w'.heap[b]? = w.heap[b]?) → r S w' cs x
  mono : ∀ {S S' : Nat → Prop} {w : World} {cs : List Value} {x : α}, r S w cs x → (∀ b, S b → S' b) → r S' w cs x

def rInt (k : IntKind) : Rp Int := ⟨fun _ _ cs n => cs = [.int k n] ∧ (Lit.int k n).wf = true, fun h _ => h, fun h _ => h⟩
def rBool : Rp Bool := ⟨fun _ _ cs b => cs = [.bool b], fun h _ => h, fun h _ => h⟩
def rStr : Rp ByteArray := ⟨fun _ _ cs s => cs = [.string s] ∧ s.size ≤ maxLen, fun h _ => h, fun h _ => h⟩
def rByte : Rp UInt8 := ⟨fun _ _ cs b => cs = [.int .u8 (b.toNat : Int)], fun h _ => h, fun h _ => h⟩
/-- Two things, one behind the other. -/
def rPair {α β : Type} (A : Rp α) (B : Rp β) : Rp (α × β) :=
  ⟨fun S w cs x => ∃ c d, cs = c ++ d ∧ A.r S w c x.1 ∧ B.r S w d x.2,
   fun ⟨c, d, h, h1, h2⟩ hk => ⟨c, d, h, A.keep h1 hk, B.keep h2 hk⟩, fun ⟨c, d, h, h1, h2⟩ hk => ⟨c, d, h, A.mono h1 hk, B.mono h2 hk⟩⟩
/-- By another name. -/
def rBy {α β : Type} (f : α → β) (B : Rp β) : Rp α := ⟨fun S w cs x => B.r S w cs (f x), fun h hk => B.keep h hk, fun h hk => B.mono h hk⟩
/-- A row of things of sz cells each, from a place on. -/
def RRow {α : Type} (sz : Nat) (A : Rp α) (S : Nat → Prop) (w : World) (b off : Nat) (xs : List α) : Prop :=
  S b ∧ ∀ i x, xs[i]? = some x → ∃ cs : List Value, cs.length = sz ∧ (∀ j v, cs[j]? = some v → w.cell? ⟨b, off + i * sz + j, none⟩ = some v) ∧ A.r S w cs x
/-- A slice, nil or not. -/
def rSl {α : Type} (sz : Nat) (A : Rp α) : Rp (List α) :=
  ⟨fun S w cs xs => ∃ a c, cs = [.slice a xs.length c] ∧ xs.length ≤ c ∧ c ≤ maxLen ∧ (xs = [] ∨ ∃ b off, a = some ⟨b, off, none⟩ ∧ RRow sz A S w b off xs),
   fun ⟨a, c, h, h1, h2, h3⟩ hk => ⟨a, c, h, h1, h2, h3.imp id fun ⟨b, off, e, hb, hr⟩ => ⟨b, off, e, hb, fun i x hi =>
     let ⟨cs, hl, hc, hA⟩ := hr i x hi
     ⟨cs, hl, fun j v hj => (World.cell?_of_block (a := ⟨b, off + i * sz + j, none⟩) (hk b hb)).trans (hc j v hj), A.keep hA hk⟩⟩⟩,
   fun ⟨a, c, h, h1, h2, h3⟩ hk => ⟨a, c, h, h1, h2, h3.imp id fun ⟨b, off, e, hb, hr⟩ => ⟨b, off, e, hk b hb, fun i x hi =>
     let ⟨cs, hl, hc, hA⟩ := hr i x hi
     ⟨cs, hl, hc, A.mono hA hk⟩⟩⟩⟩

theorem rSl_mk {α : Type} {sz : Nat} {A : Rp α} {S : Nat → Prop} {w : World} {cs : List Value} {xs : List α} {a : Option Addr} {c : Nat} (h : cs = [.slice a xs.length c]) (h1 : xs.length ≤ c) (h2 : c ≤ maxLen)
    (h3 : xs = [] ∨ ∃ b off, a = some ⟨b, off, none⟩ ∧ RRow sz A S w b off xs) : (rSl sz A).r S w cs xs := ⟨a, c, h, h1, h2, h3⟩
theorem choose_list {α : Type} (n : Nat) (Q : Nat → α → Prop) (h : ∀ i, i < n → ∃ y, Q i y) : ∃ ys : List α, ys.length = n ∧ ∀ i y, ys[i]? = some y → Q i y := by
  induction n with
  | zero => exact ⟨[], rfl, fun i y h => by simp at h⟩
  | succ n ih =>
    obtain ⟨ys, h1, h2⟩ := ih fun i hi => h i (by omega)
    obtain ⟨y, hy⟩ := h n (by omega)
    refine ⟨ys ++ [y], by simp [h1], fun i z hz => ?_⟩
    rcases Nat.lt_or_ge i ys.length with hi | hi
    · rw [List.getElem?_append_left hi] at hz
      exact h2 i z hz
    · rw [List.getElem?_append_right hi] at hz
      have h0 : i - ys.length = 0 := by
        rcases Nat.eq_zero_or_pos (i - ys.length) with h | h
        · exact h
        · rw [List.getElem?_eq_none (by simp; omega)] at hz; cases hz
      rw [h0] at hz
      simp at hz
      subst hz
      have : i = n := by omega
      subst this
      exact hy

/-- Behind 'Below'. -/
theorem Rp.below {α : Type} (A : Rp α) {w w' : World} {B : Nat} {cs : List Value} {x : α} (h : A.r (· < B) w cs x) (hb : Below B w w') : A.r (· < B) w' cs x := A.keep h hb.block

section
variable {P : Program}
/-- What can be read as a thing of type t stands for plain data. -/
def Opens (P : Program) (t : TypeId) {α : Type} (A : Rp α) : Prop :=
  ∀ {H : Type} (enc : TypeId × Value → H) (w : World) (fuel : Nat) (cs : List Value) (x : DataW H × List MemPlace), DataW.trod enc P w 0 (fun _ => true) true fuel t cs = some x → ∃ y, A.r (· < w.heap.size) w cs y

theorem opens_int {t : TypeId} {k : IntKind} (ht : P.underlying t = some (.int k)) : Opens P t (rInt k) := fun enc w fuel cs x h => by
  obtain ⟨n, rfl, _, hw⟩ := DataW.trod_int ht h
  exact ⟨n, rfl, hw⟩
theorem opens_bool {t : TypeId} (ht : P.underlying t = some .bool) : Opens P t rBool := fun enc w fuel cs x h => by
  obtain ⟨n, rfl, _⟩ := DataW.trod_bool ht h
  exact ⟨n, rfl⟩
theorem opens_str {t : TypeId} (ht : P.underlying t = some .string) : Opens P t rStr := fun enc w fuel cs x h => by
  obtain ⟨n, rfl, _, hw⟩ := DataW.trod_string ht h
  exact ⟨n, rfl, hw⟩
theorem opens_byte {t : TypeId} (ht : P.underlying t = some (.int .u8)) : Opens P t rByte := fun enc w fuel cs x h => by
  obtain ⟨n, rfl, _, hw⟩ := DataW.trod_int ht h
  have := bounds_u8 hw
  refine ⟨UInt8.ofNat n.toNat, ?_⟩
  show _ = _
  have e : ((UInt8.ofNat n.toNat).toNat : Int) = n := by
    simp [UInt8.toNat_ofNat']; omega
  rw [e]

theorem add_none {a : Addr} {b : Nat} {n : Nat} {v : Value} {w : World} (h : w.cell? (a.add n) = some v) : n = 0 → a.spot = none := by
  rintro rfl
  unfold Addr.add at h
  simp only [if_true] at h
  unfold World.cell? at h
  cases hs : a.spot with
  | none => rfl
  | some s =>
    rw [hs] at h
    split at h <;> simp at h

theorem opens_slice {t e : TypeId} {sz : Nat} {α : Type} {A : Rp α} (ht : P.underlying t = some (.slice e)) (hs : P.cellsOf e = sz) (hsz : 0 < sz) (hA : Opens P e A) : Opens P t (rSl sz A) := fun enc w fuel cs x h => by
  rcases Deep.open_slice ht h with ⟨rfl, rfl⟩ | ⟨a, len, cap, m, n, D, Pl, rfl, hb, hl, hm, hmm, _, hel⟩
  · exact ⟨[], rSl_mk rfl (Nat.le_refl _) (Nat.zero_le _) (.inl rfl)⟩
  · have hlm : len ≤ m := by simp at hmm; omega
    rw [hs] at hel
    have hy : ∀ i, i < len → ∃ y, ∃ cs' : List Value, cs'.length = sz ∧ (∀ j v, cs'[j]? = some v → w.cell? ((a.add (i * sz)).add j) = some v) ∧ A.r (· < w.heap.size) w cs' y := by
      intro i hi
      obtain ⟨cs', hc, ht'⟩ := hel i (by omega)
      obtain ⟨y, hy⟩ := hA enc w n cs' _ ht'
      obtain ⟨_, h1, h2⟩ := World.cells?_some hc
      exact ⟨y, cs', h1, fun j v hj => by
        have hj' : j < sz := by rw [← h1]; exact (List.getElem?_eq_some_iff.1 hj).1
        rw [h2 j hj']; exact hj, hy⟩
    by_cases h0 : len = 0
    · subst h0
      exact ⟨[], rSl_mk rfl (Nat.zero_le _) hm (.inl rfl)⟩
    have hspot : a.spot = none := by
      obtain ⟨y, cs', h1, h2, _⟩ := hy 0 (by omega)
      obtain ⟨v, hv⟩ : ∃ v, cs'[0]? = some v := ⟨cs'[0], List.getElem?_eq_getElem (by omega)⟩
      have := h2 0 v hv
      have e1 : (a.add (0 * sz)).add 0 = a.add 0 := by simp [Addr.add]
      rw [e1] at this
      exact add_none (b := 0) this rfl
    obtain ⟨ys, hys⟩ : ∃ ys : List α, ys.length = len ∧ ∀ i y, ys[i]? = some y → ∃ cs' : List Value, cs'.length = sz ∧ (∀ j v, cs'[j]? = some v → w.cell? ((a.add (i * sz)).add j) = some v) ∧ A.r (· < w.heap.size) w cs' y := by
      exact choose_list len _ hy
    obtain ⟨hlen, hys⟩ := hys
    refine ⟨ys, rSl_mk (a := some a) (c := cap) (by rw [hlen]) (by omega) hm (.inr ⟨a.block, a.off, by cases a; simp at hspot; rw [hspot], ?_, ?_⟩)⟩
    · obtain ⟨y, cs', h1, h2, _⟩ := hy 0 (by omega)
      obtain ⟨v, hv⟩ : ∃ v, cs'[0]? = some v := ⟨cs'[0], List.getElem?_eq_getElem (by omega)⟩
      have := World.block_lt_of_cell? w _ (h2 0 v hv)
      simpa [Addr.add] using this
    · intro i y hiy
      obtain ⟨cs', h1, h2, h3⟩ := hys i y hiy
      refine ⟨cs', h1, fun j v hj => ?_, h3⟩
      rw [← h2 j v hj]
      congr 1
      cases a with
      | mk ab ao asp =>
        simp at hspot
        subst hspot
        unfold Addr.add
        split <;> split <;> simp_all

theorem okWide_array {w : World} {r : Reach} {base : Nat} {v : Value} {t e : TypeId} {n : Nat} (ht : P.underlying t = some (.array n e)) (h : Value.okWide P w r base t v) : ∃ cs, v = .agg cs ∧ cs.size = P.cellsOf t := by
  unfold Value.okWide at h
  rw [ht] at h
  obtain ⟨cs, h1, h2, _⟩ := h
  exact ⟨cs, h1, h2⟩
/-- An array of n things of sz cells each. -/
def rVec {α : Type} (n sz : Nat) (A : Rp α) : Rp (List α) :=
  ⟨fun S w cs xs => cs.length = n * sz ∧ xs.length = n ∧ ∀ i x, xs[i]? = some x → A.r S w ((cs.drop (i * sz)).take sz) x,
   fun ⟨h1, h2, h⟩ hk => ⟨h1, h2, fun i x hi => A.keep (h i x hi) hk⟩, fun ⟨h1, h2, h⟩ hk => ⟨h1, h2, fun i x hi => A.mono (h i x hi) hk⟩⟩
theorem opens_array {t e : TypeId} {n sz : Nat} {α : Type} {A : Rp α} (ht : P.underlying t = some (.array n e)) (hs : P.cellsOf e = sz) (hc : P.cellsOf t = n * sz) (hA : Opens P e A) : Opens P t (rVec n sz A) := fun enc w fuel cs x h => by
  obtain ⟨xs, m, _, _, h1, h2, h3⟩ := DataW.trod_array ht h
  rw [hs] at h3
  obtain ⟨ys, hy1, hy2⟩ := choose_list n (fun i y => A.r (· < w.heap.size) w ((cs.drop (i * sz)).take sz) y) fun i hi => by
    have h4 := h3 i hi
    rw [List.getElem?_eq_getElem (by omega)] at h4
    exact hA enc w m _ _ h4
  exact ⟨ys, h1.trans hc, hy1, hy2⟩

/-- A struct's fields, each read. -/
theorem trod_fields {H : Type} {enc : TypeId × Value → H} {w : World} {fuel : Nat} {t : TypeId} {cs : List Value} {x : DataW H × List MemPlace} {fs : Array Field} (ht : P.underlying t = some (.struct fs)) (h : DataW.trod enc P w 0 (fun _ => true) true fuel t cs = some x) :
    cs.length = P.cellsOf t ∧ ∃ n, ∀ (i : Nat) (f : Field), fs[i]? = some f → ∃ y, DataW.trod enc P w 0 (fun _ => true) true n f.type ((cs.drop f.offset).take (P.cellsOf f.type)) = some y := by
  obtain ⟨xs, n, _, _, h1, h2, h3⟩ := DataW.trod_struct ht h
  refine ⟨h1, n, fun i f hf => ?_⟩
  have hi : i < fs.size := (Array.getElem?_eq_some_iff.1 hf).1
  rw [h3 i f hf, List.getElem?_eq_getElem (by omega)]
  exact ⟨_, rfl⟩
theorem pair_step {α β : Type} {A : Rp α} {B : Rp β} {S : Nat → Prop} {w : World} {cs : List Value} {o s o' : Nat} {x : α} {y : β} (ho : o + s = o') (h1 : A.r S w ((cs.drop o).take s) x) (h2 : B.r S w (cs.drop o') y) : (rPair A B).r S w (cs.drop o) (x, y) :=
  ⟨_, _, by subst ho; rw [← List.drop_drop, List.take_append_drop], h1, h2⟩
theorem last_step {β : Type} {B : Rp β} {S : Nat → Prop} {w : World} {cs : List Value} {o s : Nat} {y : β} (hl : cs.length = o + s) (h2 : B.r S w ((cs.drop o).take s) y) : B.r S w (cs.drop o) y := by
  rwa [List.take_of_length_le (by simp; omega)] at h2

end
end Go.Bs
