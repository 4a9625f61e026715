/- Links cut down to their first back, one cell at a time. -/
import Derived.Test.YtlbchenleimopaaDatb
import Derived.Test.YtlbchenleimopaaStI
namespace Go.Proofs.Ytlbchenleimopaa
open Go.RowKit Go.Bs
set_option linter.unusedVariables false
set_option linter.unusedSimpArgs false

def cutL (x : Link) : Link := ⟨x.stream, x.backs.take 1⟩
def cutE (e : Entry) : Entry := ⟨e.links.map cutL, e.data⟩
def cutB (b : Batch) : Batch := ⟨b.epoch, b.base, b.entries.map cutE⟩
theorem cutL_idem (x : Link) : cutL (cutL x) = cutL x := by simp [cutL, List.take_take]

/-- The links of l', each one as in l or cut; the k-th one cut if it is asked for. -/
def CutLinks (l l' : List Link) : Prop := l'.length = l.length ∧ ∀ (t : Nat) x y, l[t]? = some x → l'[t]? = some y → y = x ∨ y = cutL x
def CutEnts (l l' : List Entry) : Prop := l'.length = l.length ∧ ∀ (t : Nat) x y, l[t]? = some x → l'[t]? = some y → y.data = x.data ∧ CutLinks x.links y.links

section
variable {w : World} {S : Nat → Prop}

theorem set_other {p q : Addr} {u : Value} (hq : q ≠ p) (hs : p.spot = none) (hs' : q.spot = none) : (w.setCell p u).cell? q = w.cell? q := by
  by_cases hb : q.block = p.block
  · have ho : q.off ≠ p.off := fun e => hq (by cases p; cases q; simp_all)
    cases hk : w.heap[p.block]? with
    | none => simp [World.setCell, World.cell?, Array.getElem?_modify, hb, hk]
    | some o =>
      cases o with
      | cells cs t fr =>
        simp only [World.setCell, World.cell?, Array.getElem?_modify, hb, hk, if_true, Option.map_some, hs', hs]
        simp
        rw [Array.getElem?_setIfInBounds_ne (Ne.symm ho)]
      | _ => simp [World.setCell, World.cell?, Array.getElem?_modify, hb, hk]
  · exact World.cell?_of_block (w := w) (Below.heap_setCell _ _ _ _ hb)
theorem set_frozen {p q : Addr} {u : Value} : (w.setCell p u).frozen? q = w.frozen? q := by
  by_cases hb : q.block = p.block
  · cases hk : w.heap[p.block]? with
    | none => simp [World.setCell, World.frozen?, Array.getElem?_modify, hb, hk]
    | some o =>
      cases o <;> simp [World.setCell, World.frozen?, Array.getElem?_modify, hb, hk]
  · exact World.frozen?_of_block (w := w) (Below.heap_setCell _ _ _ _ hb)

/-- Numbers and bytes do not hang on a cell that holds a slice. -/
theorem u64s_set {p : Addr} {u : Value} {a : Option Addr} {n c : Nat} {cs : List Value} {l : List Int} (hp : w.cell? p = some (.slice a n c)) (hs : p.spot = none) (h : rU64s.r S w cs l) : rU64s.r S (w.setCell p u) cs l := by
  obtain ⟨a', c', h1, h2, h3, h4⟩ := h
  refine ⟨a', c', h1, h2, h3, h4.imp id fun ⟨b, off, e, hb, hr⟩ => ⟨b, off, e, hb, fun i x hi => ?_⟩⟩
  obtain ⟨ds, h5, h6, h7, h8⟩ := hr i x hi
  refine ⟨ds, h5, fun j v hj => ?_, h7, h8⟩
  have h9 := h6 j v hj
  rw [set_other (fun e => ?_) hs rfl]
  · exact h9
  · rw [e, hp] at h9
    rw [h7] at hj
    cases j with
    | zero => simp at hj; subst hj; simp at h9
    | succ j => simp at hj
theorem bytes_set {p : Addr} {u : Value} {a : Option Addr} {n c : Nat} {cs : List Value} {l : List UInt8} (hp : w.cell? p = some (.slice a n c)) (hs : p.spot = none) (h : rBytes.r S w cs l) : rBytes.r S (w.setCell p u) cs l := by
  obtain ⟨a', c', h1, h2, h3, h4⟩ := h
  refine ⟨a', c', h1, h2, h3, h4.imp id fun ⟨b, off, e, hb, hr⟩ => ⟨b, off, e, hb, fun i x hi => ?_⟩⟩
  obtain ⟨ds, h5, h6, h7⟩ := hr i x hi
  refine ⟨ds, h5, fun j v hj => ?_, h7⟩
  have h9 := h6 j v hj
  rw [set_other (fun e => ?_) hs rfl]
  · exact h9
  · rw [e, hp] at h9
    have h7' : ds = [.int .u8 (x.toNat : Int)] := h7
    rw [h7'] at hj
    cases j with
    | zero => simp at hj; subst hj; simp at h9
    | succ j => simp at hj

theorem link_cells' {x : Link} {cs : List Value} (h : rLink.r S w cs x) : ∃ a c, cs = [.int .u64 x.stream, .slice a x.backs.length c] ∧ (0 ≤ x.stream ∧ x.stream ≤ 18446744073709551615) ∧ rU64s.r S w [.slice a x.backs.length c] x.backs := link_cells h

/-- One link's backs are cut: all links read as before, or cut; the one itself is cut. -/
theorem links_set {p : Addr} {a : Option Addr} {n c : Nat} (hp : w.cell? p = some (.slice a n c)) (hs : p.spot = none) {cs : List Value} {l : List Link} (h : rLinksW.r S w cs l) :
    ∃ l', rLinksW.r S (w.setCell p (.slice a (min n 1) c)) cs l' ∧ CutLinks l l' ∧ ∀ (b off cap : Nat) (i : Nat) x y, cs = [.slice (some ⟨b, off, none⟩) l.length cap] → p = ⟨b, off + i * 2 + 1, none⟩ → l[i]? = some x → l'[i]? = some y → y = cutL x := by
  obtain ⟨a', c', h1, h2, h3, h4⟩ := h
  rcases h4 with rfl | ⟨b, off, rfl, hb, hr⟩
  · exact ⟨[], ⟨a', c', h1, h2, h3, .inl rfl⟩, ⟨rfl, fun t x y h => by simp at h⟩, fun b off cap i x y _ _ h => by simp at h⟩
  · have hch : ∃ l' : List Link, l'.length = l.length ∧ ∀ i y, l'[i]? = some y → ∃ x, l[i]? = some x ∧ (y = x ∨ y = cutL x) ∧ (p = ⟨b, off + i * 2 + 1, none⟩ → y = cutL x) ∧
        ∃ ds : List Value, ds.length = 2 ∧ (∀ (j : Nat) v, ds[j]? = some v → (w.setCell p (.slice a (min n 1) c)).cell? ⟨b, off + i * 2 + j, none⟩ = some v ∧ (w.setCell p (.slice a (min n 1) c)).frozen? ⟨b, off + i * 2 + j, none⟩ = false) ∧ rLink.r (fun q => S q ∧ q ≠ b) (w.setCell p (.slice a (min n 1) c)) ds y := by
      refine choose_list l.length _ fun i hi => ?_
      obtain ⟨ds, h5, h6, h7⟩ := hr i l[i] (List.getElem?_eq_getElem hi)
      obtain ⟨a2, c2, hds, hst, hbk⟩ := link_cells' h7
      subst hds
      have q0 := h6 0 _ rfl
      have q1 := h6 1 _ rfl
      have hcap := (sl_len hbk).2.2
      by_cases hpi : p = ⟨b, off + i * 2 + 1, none⟩
      · have hsame : a2 = a ∧ l[i].backs.length = n ∧ c2 = c := by
          have := q1.1
          rw [← hpi, hp] at this
          simp at this
          exact ⟨this.1.symm, this.2.1.symm, this.2.2.symm⟩
        obtain ⟨rfl, rfl, rfl⟩ := hsame
        have hlen : (cutL l[i]).backs.length = min l[i].backs.length 1 := by simp [cutL]; omega
        refine ⟨cutL l[i], l[i], List.getElem?_eq_getElem hi, .inr rfl, fun _ => rfl, [.int .u64 l[i].stream, .slice a2 (min l[i].backs.length 1) c2], rfl, fun j v hj => ⟨?_, by rw [set_frozen]; cases j with | zero => exact q0.2 | succ j => cases j with | zero => exact q1.2 | succ j => simp at hj⟩, ?_⟩
        · cases j with
          | zero =>
            simp at hj; subst hj
            rw [set_other (fun e => by rw [hpi] at e; simp at e) hs rfl]
            exact q0.1
          | succ j =>
            cases j with
            | zero =>
              simp at hj; subst hj
              have hlt := World.block_lt_of_cell? w _ q1.1
              rw [show off + i * 2 + (0 + 1) = off + i * 2 + 1 from rfl, ← hpi]
              exact World.cell?_setCell_same _ _ _ hp
            | succ j => simp at hj
        · have hb2 := u64s_set (u := .slice a2 (min l[i].backs.length 1) c2) hp hs hbk
          have ht := sl_take hb2 (k := min l[i].backs.length 1) (by omega)
          have e1 : l[i].backs.take (min l[i].backs.length 1) = (cutL l[i]).backs := by
            simp only [cutL]
            by_cases h0 : l[i].backs.length = 0
            · rw [List.eq_nil_of_length_eq_zero h0]; simp
            · rw [show min l[i].backs.length 1 = 1 by omega]
          rw [e1] at ht
          exact link_mk (x := cutL l[i]) hst ht
      · refine ⟨l[i], l[i], List.getElem?_eq_getElem hi, .inl rfl, fun e => absurd e hpi, _, rfl, fun j v hj => ⟨?_, by rw [set_frozen]; exact (h6 j v hj).2⟩, link_mk hst (u64s_set hp hs hbk)⟩
        rw [set_other (fun e => ?_) hs rfl]
        · exact (h6 j v hj).1
        · cases j with
          | zero =>
            have := q0.1
            rw [show off + i * 2 + 0 = off + i * 2 from rfl] at e this
            rw [e, hp] at this
            simp at this
          | succ j =>
            cases j with
            | zero => exact hpi e.symm
            | succ j => simp at hj
    obtain ⟨l', hl', hall⟩ := hch
    refine ⟨l', ⟨some ⟨b, off, none⟩, c', by rw [hl']; exact h1, by omega, h3, .inr ⟨b, off, rfl, hb, fun i y hi => ?_⟩⟩, ⟨hl', fun t x y hx hy => ?_⟩, fun b' off' cap i x y hcs hpe hx hy => ?_⟩
    · obtain ⟨x, _, _, _, ds, h⟩ := hall i y hi
      exact ⟨ds, h⟩
    · obtain ⟨x', hx', h, _⟩ := hall t y hy
      rw [hx] at hx'
      cases hx'
      exact h
    · obtain ⟨x', hx', _, h, _⟩ := hall i y hy
      rw [hx] at hx'
      cases hx'
      rw [h1] at hcs
      simp at hcs
      obtain ⟨⟨rfl, rfl⟩, _⟩ := hcs
      exact h hpe

/-- The same of entries whose own cells lie elsewhere. -/
theorem ents_set {p : Addr} {a : Option Addr} {n c : Nat} (hp : w.cell? p = some (.slice a n c)) (hs : p.spot = none) {b off cap : Nat} {es : List Entry} (h : rEntriesW.r S w [.slice (some ⟨b, off, none⟩) es.length cap] es) (hne : p.block ≠ b) :
    ∃ es', rEntriesW.r S (w.setCell p (.slice a (min n 1) c)) [.slice (some ⟨b, off, none⟩) es.length cap] es' ∧ CutEnts es es' ∧
      ∀ (j i b1 off1 cap1 len : Nat) e e' x y, es[j]? = some e → es'[j]? = some e' → w.cell? ⟨b, off + j * 2, none⟩ = some (.slice (some ⟨b1, off1, none⟩) len cap1) → p = ⟨b1, off1 + i * 2 + 1, none⟩ → e.links[i]? = some x → e'.links[i]? = some y → y = cutL x := by
  obtain ⟨a', c', h1, h2, h3, h4⟩ := h
  simp at h1
  obtain ⟨rfl, rfl⟩ := h1
  rcases h4 with rfl | ⟨b', off', he, hb, hr⟩
  · exact ⟨[], ⟨_, _, rfl, h2, h3, .inl rfl⟩, ⟨rfl, fun t x y h => by simp at h⟩, fun j i b1 off1 cap1 len e e' x y h => by simp at h⟩
  · simp at he
    obtain ⟨rfl, rfl⟩ := he
    have hch : ∃ es' : List Entry, es'.length = es.length ∧ ∀ j y, es'[j]? = some y → ∃ x, es[j]? = some x ∧ (y.data = x.data ∧ CutLinks x.links y.links) ∧
        (∀ (i b1 off1 cap1 len : Nat) x1 y1, w.cell? ⟨b, off + j * 2, none⟩ = some (.slice (some ⟨b1, off1, none⟩) len cap1) → p = ⟨b1, off1 + i * 2 + 1, none⟩ → x.links[i]? = some x1 → y.links[i]? = some y1 → y1 = cutL x1) ∧
        ∃ ds : List Value, ds.length = 2 ∧ (∀ (k : Nat) v, ds[k]? = some v → (w.setCell p (.slice a (min n 1) c)).cell? ⟨b, off + j * 2 + k, none⟩ = some v ∧ (w.setCell p (.slice a (min n 1) c)).frozen? ⟨b, off + j * 2 + k, none⟩ = false) ∧ rEntryW.r (fun q => S q ∧ q ≠ b) (w.setCell p (.slice a (min n 1) c)) ds y := by
      refine choose_list es.length _ fun j hj => ?_
      obtain ⟨ds, h5, h6, d1, d2, hds, hL, hD⟩ := hr j es[j] (List.getElem?_eq_getElem hj)
      obtain ⟨l', hL', hcl, hex⟩ := links_set (n := n) (c := c) hp hs hL
      have hD' := bytes_set (u := .slice a (min n 1) c) hp hs hD
      have hlen : l'.length = es[j].links.length := hcl.1
      refine ⟨⟨l', es[j].data⟩, es[j], List.getElem?_eq_getElem hj, ⟨rfl, hcl⟩, fun i b1 off1 cap1 len x1 y1 hc1 hpe hx hy => ?_, ds, h5, fun k v hk => ⟨?_, by rw [set_frozen]; exact (h6 k v hk).2⟩, d1, d2, hds, hL', hD'⟩
      · obtain ⟨a1, c1, e1, _⟩ := sl_form (linksW_links hL)
        have h60 := (h6 0 (.slice a1 es[j].links.length c1) (by rw [hds, e1]; rfl)).1
        rw [show off + j * 2 + 0 = off + j * 2 from rfl, hc1] at h60
        simp at h60
        obtain ⟨h61, h62, h63⟩ := h60
        exact hex b1 off1 c1 i x1 y1 (by rw [e1, ← h61]) hpe hx hy
      · rw [World.cell?_of_block (w := w) (Below.heap_setCell _ _ _ _ (fun e => hne e.symm))]
        exact (h6 k v hk).1
    obtain ⟨es', hl', hall⟩ := hch
    refine ⟨es', ⟨_, _, by rw [hl'], by omega, h3, .inr ⟨b, off, rfl, hb, fun j y hj => ?_⟩⟩, ⟨hl', fun t x y hx hy => ?_⟩, fun j i b1 off1 cap1 len e e' x y he he' hc1 hpe hx hy => ?_⟩
    · obtain ⟨x, _, _, _, ds, h⟩ := hall j y hj
      exact ⟨ds, h⟩
    · obtain ⟨x', hx', h, _⟩ := hall t y hy
      rw [hx] at hx'
      cases hx'
      exact h
    · obtain ⟨x', hx', _, h, _⟩ := hall j e' he'
      rw [he] at hx'
      cases hx'
      exact h i b1 off1 cap1 len x y hc1 hpe hx hy
end
end Go.Proofs.Ytlbchenleimopaa
