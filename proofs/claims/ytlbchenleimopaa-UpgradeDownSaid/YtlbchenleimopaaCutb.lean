/- Entries whose links are cut one by one: plain. -/
import Derived.Test.YtlbchenleimopaaCut
namespace Go.Proofs.Ytlbchenleimopaa
open Go.RowKit Go.Bs
set_option linter.unusedVariables false
set_option linter.unusedSimpArgs false

theorem CutLinks.refl (l : List Link) : CutLinks l l := ⟨rfl, fun t x y h1 h2 => .inl (Option.some.inj (h2.symm.trans h1))⟩
theorem CutEnts.refl (l : List Entry) : CutEnts l l := ⟨rfl, fun t x y h1 h2 => by cases h2.symm.trans h1; exact ⟨rfl, CutLinks.refl _⟩⟩
theorem CutLinks.trans {a b c : List Link} (h : CutLinks a b) (k : CutLinks b c) : CutLinks a c := by
  refine ⟨k.1.trans h.1, fun t x z hx hz => ?_⟩
  have hlt : t < b.length := by rw [← k.1]; exact (List.getElem?_eq_some_iff.1 hz).1
  have hb := List.getElem?_eq_getElem hlt
  rcases h.2 t x _ hx hb with e | e
  · rw [← e]; exact k.2 t _ z hb hz
  · rcases k.2 t _ z hb hz with e2 | e2
    · right; rw [e2, e]
    · right; rw [e2, e, cutL_idem]
theorem CutEnts.trans {a b c : List Entry} (h : CutEnts a b) (k : CutEnts b c) : CutEnts a c := by
  refine ⟨k.1.trans h.1, fun t x z hx hz => ?_⟩
  have hlt : t < b.length := by rw [← k.1]; exact (List.getElem?_eq_some_iff.1 hz).1
  have hb := List.getElem?_eq_getElem hlt
  obtain ⟨h1, h2⟩ := h.2 t x _ hx hb
  obtain ⟨k1, k2⟩ := k.2 t _ z hb hz
  exact ⟨k1.trans h1, h2.trans k2⟩

/-- As far as link i of entry j. -/
structure Part (es0 es' : List Entry) (j i : Nat) : Prop where
  cut : CutEnts es0 es'
  done : ∀ (p : Nat) x y, p < j → es0[p]? = some x → es'[p]? = some y → y = cutE x
  now : ∀ x y (t : Nat) x1 y1, es0[j]? = some x → es'[j]? = some y → t < i → x.links[t]? = some x1 → y.links[t]? = some y1 → y1 = cutL x1

theorem Part.start (es : List Entry) : Part es es 0 0 := ⟨CutEnts.refl _, fun p x y h => by omega, fun x y t x1 y1 _ _ h => by omega⟩

theorem cutE_of {x y z : Entry} (hy : y = cutE x) (h : z.data = y.data) (hl : CutLinks y.links z.links) : z = cutE x := by
  subst hy
  obtain ⟨zl, zd⟩ := z
  simp only [cutE] at *
  subst h
  congr 1
  refine List.ext_getElem? fun t => ?_
  by_cases hlt : t < x.links.length
  · have hz : t < zl.length := by rw [hl.1]; simpa using hlt
    rw [List.getElem?_eq_getElem hz, List.getElem?_map, List.getElem?_eq_getElem hlt]
    have := hl.2 t (cutL x.links[t]) zl[t] (by rw [List.getElem?_map, List.getElem?_eq_getElem hlt]; rfl) (List.getElem?_eq_getElem hz)
    rcases this with e | e
    · rw [e]; rfl
    · rw [e, cutL_idem]; rfl
  · have hz : zl.length ≤ t := by rw [hl.1]; simp; omega
    rw [List.getElem?_eq_none hz, List.getElem?_map, List.getElem?_eq_none (by omega)]; rfl

theorem Part.step {es0 es' es'' : List Entry} {j i : Nat} (h : Part es0 es' j i) (hc : CutEnts es' es'') (hi : ∀ e e' x y, es'[j]? = some e → es''[j]? = some e' → e.links[i]? = some x → e'.links[i]? = some y → y = cutL x) : Part es0 es'' j (i + 1) := by
  refine ⟨h.cut.trans hc, fun p x z hp hx hz => ?_, fun x z t x1 z1 hx hz ht hx1 hz1 => ?_⟩
  · have hlt : p < es'.length := by rw [← hc.1]; exact (List.getElem?_eq_some_iff.1 hz).1
    have hb := List.getElem?_eq_getElem hlt
    obtain ⟨h1, h2⟩ := hc.2 p _ z hb hz
    exact cutE_of (h.done p x _ hp hx hb) h1 h2
  · have hlt : j < es'.length := by rw [← hc.1]; exact (List.getElem?_eq_some_iff.1 hz).1
    have hb := List.getElem?_eq_getElem hlt
    obtain ⟨h1, h2⟩ := hc.2 j _ z hb hz
    have hlt1 : t < es'[j].links.length := by rw [← h2.1]; exact (List.getElem?_eq_some_iff.1 hz1).1
    have hb1 := List.getElem?_eq_getElem hlt1
    obtain ⟨_, h3⟩ := h.cut.2 j x _ hx hb
    by_cases hti : t = i
    · subst hti
      have e1 := hi _ z _ z1 hb hz hb1 hz1
      rcases h3.2 t x1 _ hx1 hb1 with e | e
      · rw [e1, e]
      · rw [e1, e, cutL_idem]
    · have e1 := h.now x _ t x1 _ hx hb (by omega) hx1 hb1
      rcases h2.2 t _ z1 hb1 hz1 with e | e
      · rw [e, e1]
      · rw [e, e1, cutL_idem]

theorem Part.next {es0 es' : List Entry} {j i : Nat} (h : Part es0 es' j i) (hi : ∀ x, es0[j]? = some x → x.links.length ≤ i) : Part es0 es' (j + 1) 0 := by
  refine ⟨h.cut, fun p x y hp hx hy => ?_, fun x y t x1 y1 _ _ ht => by omega⟩
  by_cases hpj : p = j
  · subst hpj
    obtain ⟨h1, h2⟩ := h.cut.2 p x y hx hy
    obtain ⟨yl, yd⟩ := y
    simp only [cutE] at *
    subst h1
    congr 1
    refine List.ext_getElem? fun t => ?_
    by_cases hlt : t < x.links.length
    · have hz : t < yl.length := by rw [h2.1]; exact hlt
      rw [List.getElem?_eq_getElem hz, List.getElem?_map, List.getElem?_eq_getElem hlt]
      have := h.now x _ t _ _ hx hy (by have := hi x hx; omega) (List.getElem?_eq_getElem hlt) (List.getElem?_eq_getElem hz)
      rw [this]; rfl
    · have hz : yl.length ≤ t := by rw [h2.1]; omega
      rw [List.getElem?_eq_none hz, List.getElem?_map, List.getElem?_eq_none (by omega)]; rfl
  · exact h.done p x y (by omega) hx hy

theorem Part.end {es0 es' : List Entry} {i : Nat} (h : Part es0 es' es0.length i) : es' = es0.map cutE := by
  refine List.ext_getElem? fun t => ?_
  by_cases hlt : t < es0.length
  · have hz : t < es'.length := by rw [h.cut.1]; exact hlt
    rw [List.getElem?_eq_getElem hz, List.getElem?_map, List.getElem?_eq_getElem hlt]
    rw [h.done t _ _ hlt (List.getElem?_eq_getElem hlt) (List.getElem?_eq_getElem hz)]; rfl
  · have hz : es'.length ≤ t := by rw [h.cut.1]; omega
    rw [List.getElem?_eq_none hz, List.getElem?_map, List.getElem?_eq_none (by omega)]; rfl

/-- A segment brought down, and the code. -/
def downR (g : Seg) : Seg × Int := if segR g then (⟨g.epoch, g.batches.map cutB⟩, 0) else (⟨0, []⟩, 3)
end Go.Proofs.Ytlbchenleimopaa
