/- An own slice whose last element is still being built. -/
import Derived.Test.YtkipiefcnjfdjaaGreatDatb
namespace Go.Bs
open Go.RowKit
set_option linter.unusedVariables false
set_option linter.unusedSimpArgs false
section
variable {w w' : World} {α : Type}

theorem flatten_len (sz : Nat) : ∀ (l : List (List Value)), (∀ c ∈ l, c.length = sz) → l.flatten.length = l.length * sz
  | [], _ => by simp
  | a :: l, h => by
    rw [List.flatten_cons, List.length_append, h a (by simp), flatten_len sz l fun c hc => h c (by simp [hc]), List.length_cons, Nat.succ_mul]
    omega

/-- As OwnElsAt, each element reaching into blocks of F alone. -/
def OwnElsF (F : Nat → Prop) (A : Rp α) (base : Nat) (e : TypeId) (sz : Nat) (w : World) (v : Value) (xs : List α) (cells : List (List Value)) : Prop :=
  w.ownsRow base e sz v xs.length cells.flatten ∧ cells.length = xs.length ∧ (∀ c ∈ cells, c.length = sz) ∧
    ∀ (i : Nat) cs x, cells[i]? = some cs → xs[i]? = some x → A.r (fun b => F b ∧ v.ownBlock ≠ some b) w cs x

theorem OwnElsF.of {lo : Nat} {A : Rp α} {base : Nat} {e : TypeId} {sz : Nat} {v : Value} {xs : List α} {cells : List (List Value)} (h : OwnElsAt lo A base e sz w v xs cells) : OwnElsF (fun b => lo ≤ b ∧ b < w.heap.size) A base e sz w v xs cells :=
  ⟨h.1, h.2.1, h.2.2.1, fun i cs x hi hx => A.mono (h.2.2.2 i cs x hi hx) fun b hb => ⟨⟨hb.1, hb.2.1⟩, hb.2.2⟩⟩
theorem OwnElsF.to {F : Nat → Prop} {lo : Nat} {A : Rp α} {base : Nat} {e : TypeId} {sz : Nat} {v : Value} {xs : List α} {cells : List (List Value)} (h : OwnElsF F A base e sz w v xs cells) (hF : ∀ b, F b → lo ≤ b ∧ b < w.heap.size) : OwnElsAt lo A base e sz w v xs cells :=
  ⟨h.1, h.2.1, h.2.2.1, fun i cs x hi hx => A.mono (h.2.2.2 i cs x hi hx) fun b hb => ⟨(hF b hb.1).1, (hF b hb.1).2, hb.2⟩⟩
theorem OwnElsF.keep {F : Nat → Prop} {A : Rp α} {base : Nat} {e : TypeId} {sz : Nat} {v : Value} {xs : List α} {cells : List (List Value)} (h : OwnElsF F A base e sz w v xs cells) (hF : ∀ b, F b → w'.heap[b]? = w.heap[b]?) (hv : ∀ g, v.ownBlock = some g → w'.heap[g]? = w.heap[g]?) : OwnElsF F A base e sz w' v xs cells := by
  obtain ⟨ho, hlen, hsz, hA⟩ := h
  refine ⟨⟨ho.1, ?_⟩, hlen, hsz, fun i cs x hi hx => A.keep (hA i cs x hi hx) fun b hb => hF b hb.1⟩
  rcases ho.2 with h0 | ⟨g, cap, cur, h1, h2, h3, h4⟩
  · exact .inl h0
  · exact .inr ⟨g, cap, cur, h1, h2, by rw [hv g (by rw [h1]; rfl)]; exact h3, h4⟩
theorem OwnElsF.mono {F F' : Nat → Prop} {A : Rp α} {base : Nat} {e : TypeId} {sz : Nat} {v : Value} {xs : List α} {cells : List (List Value)} (h : OwnElsF F A base e sz w v xs cells) (hF : ∀ b, F b → F' b) : OwnElsF F' A base e sz w v xs cells :=
  ⟨h.1, h.2.1, h.2.2.1, fun i cs x hi hx => A.mono (h.2.2.2 i cs x hi hx) fun b hb => ⟨hF b hb.1, hb.2⟩⟩

theorem OwnElsF.nil {F : Nat → Prop} {A : Rp α} {base : Nat} {e : TypeId} {sz : Nat} : OwnElsF F A base e sz w (.slice none 0 0) [] [] :=
  ⟨⟨by simp, .inl ⟨rfl, rfl⟩⟩, rfl, (by simp), fun i cs x h => by simp at h⟩
theorem OwnElsF.push {F : Nat → Prop} {A : Rp α} {base : Nat} {e : TypeId} {sz : Nat} {v v' : Value} {xs : List α} {news : List Value} {x : α} {cells : List (List Value)} (h : OwnElsF F A base e sz w v xs cells) (hF : ∀ b, F b → b < w.heap.size)
    (hn : news.length = sz) (hx : A.r (fun b => F b ∧ v.ownBlock ≠ some b) w news x)
    (hown : w'.ownsRow base e sz v' (xs.length + 1) (cells.flatten ++ news)) (hg : w.grownBy w' v.ownBlock) (hat : v'.ownBlock = v.ownBlock ∨ v'.ownBlock = some w.heap.size) : OwnElsF F A base e sz w' v' (xs ++ [x]) (cells ++ [news]) := by
  obtain ⟨ho, hlen, hsz, hA⟩ := h
  have lift : ∀ cs y, A.r (fun b => F b ∧ v.ownBlock ≠ some b) w cs y → A.r (fun b => F b ∧ v'.ownBlock ≠ some b) w' cs y := fun cs y hr =>
    A.mono (A.keep hr fun b hb => hg.block b (hF b hb.1) (fun e => hb.2 e.symm)) fun b hb => ⟨hb.1, fun e => by
      rcases hat with h | h
      · exact hb.2 (h ▸ e)
      · rw [h] at e; have := Option.some.inj e; have := hF b hb.1; omega⟩
  refine ⟨?_, by simp [hlen], ?_, ?_⟩
  · rw [List.flatten_append, List.length_append]
    simpa using hown
  · intro c hc
    rcases List.mem_append.1 hc with h | h
    · exact hsz c h
    · simp at h; subst h; exact hn
  · intro i cs y hi hy
    by_cases hlt : i < xs.length
    · rw [List.getElem?_append_left (by omega)] at hi
      rw [List.getElem?_append_left hlt] at hy
      exact lift _ _ (hA i cs y hi hy)
    · have hii : i = xs.length := by
        have := (List.getElem?_eq_some_iff.1 hy).1
        simp at this
        omega
      subst hii
      rw [List.getElem?_append_right (by omega)] at hi
      rw [List.getElem?_append_right (Nat.le_refl _)] at hy
      simp [hlen] at hi
      simp at hy
      subst hi hy
      exact lift _ _ hx
/-- What it stands for. -/
theorem OwnElsF.slice {F : Nat → Prop} {A : Rp α} {base : Nat} {e : TypeId} {sz : Nat} {v : Value} {xs : List α} {cells : List (List Value)} (h : OwnElsF F A base e sz w v xs cells) : (rSl sz A).r (fun b => F b ∨ v.ownBlock = some b) w [v] xs := by
  obtain ⟨hown, hlen, hsz, hA⟩ := h
  rcases hown.2 with ⟨rfl, h0⟩ | ⟨g, cap, cur, rfl, hbg, hg, hn, hc, hcur, hx⟩
  · have : xs = [] := List.eq_nil_of_length_eq_zero h0
    subst this
    exact rSl_mk rfl (Nat.le_refl _) (Nat.zero_le _) (.inl rfl)
  · refine rSl_mk rfl hn hc (.inr ⟨g, 0, rfl, .inr rfl, fun i x hi => ?_⟩)
    have hi' : i < xs.length := (List.getElem?_eq_some_iff.1 hi).1
    have hic : i < cells.length := by omega
    have hcs : cells[i]? = some cells[i] := List.getElem?_eq_getElem hic
    refine ⟨cells[i], hsz _ (List.getElem_mem hic), fun j v hj => ?_, A.mono (hA i _ x hcs hi) fun b h => .inl h.1⟩
    have hj' : j < sz := by have := (List.getElem?_eq_some_iff.1 hj).1; rw [hsz _ (List.getElem_mem hic)] at this; exact this
    have hf := flatten_at sz cells hsz i j _ v hcs hj
    rw [Nat.zero_add, Blk.cell hg (i * sz + j)]
    have hb : i * sz + j < xs.length * sz := by
      have := Nat.mul_le_mul_right sz (show i + 1 ≤ xs.length from hi')
      rw [Nat.succ_mul] at this
      omega
    have e1 : cur[i * sz + j]? = (cur.toList.take (xs.length * sz))[i * sz + j]? := by
      rw [List.getElem?_take, if_pos hb]; simp
    rw [e1, hx]; exact hf

/-- The last element of an own slice is written anew. -/
theorem OwnElsF.setLast {F : Nat → Prop} {A : Rp α} {base : Nat} {e : TypeId} {sz : Nat} {g n c : Nat} {xs : List α} {x x' : α} {cells : List (List Value)} {cs : List Value} {j : Nat} {u : Value}
    (h : OwnElsF F A base e sz w (.slice (some ⟨g, 0, none⟩) n c) (xs ++ [x]) (cells ++ [cs])) (hl : cells.length = xs.length) (hj : j < sz)
    (hx : A.r (fun b => F b ∧ g ≠ b) w (cs.set j u) x') :
    OwnElsF F A base e sz (w.setCell ⟨g, xs.length * sz + j, none⟩ u) (.slice (some ⟨g, 0, none⟩) n c) (xs ++ [x']) (cells ++ [cs.set j u]) := by
  obtain ⟨ho, hlen, hsz, hA⟩ := h
  have hcs : cs.length = sz := hsz cs (by simp)
  have hsz2 : ∀ c' ∈ cells ++ [cs.set j u], c'.length = sz := by
    intro c' hc'
    rcases List.mem_append.1 hc' with h | h
    · exact hsz c' (by simp [h])
    · simp at h; subst h; simpa using hcs
  refine ⟨⟨by rw [flatten_len sz _ hsz2]; simp [hl], ?_⟩, by simp [hl], hsz2, ?_⟩
  · rcases ho.2 with ⟨h0, _⟩ | ⟨g', cap, cur, h1, h2, h3, h4, h5, h6, h7⟩
    · cases h0
    · simp at h1
      obtain ⟨rfl, rfl, rfl⟩ := h1
      refine .inr ⟨g, c, cur.setIfInBounds (xs.length * sz + j) u, by simp, h2, ?_, by simpa using h4, h5, by simpa using h6, ?_⟩
      · exact Blk.set h3 _ _
      · have hfl : cells.flatten.length = xs.length * sz := by rw [flatten_len sz cells fun c hc => hsz c (by simp [hc]), hl]
        have e2 : (cells ++ [cs.set j u]).flatten = (cells ++ [cs]).flatten.set (xs.length * sz + j) u := by
          simp only [List.flatten_append, List.flatten_cons, List.flatten_nil, List.append_nil]
          rw [List.set_append, if_neg (by omega), hfl]
          congr 2
          omega
        have e3 : (xs ++ [x']).length = (xs ++ [x]).length := by simp
        rw [e2, ← h7, e3]
        simp only [Array.toList_setIfInBounds]
        rw [List.take_set]
  · intro i cs' y hi hy
    have keep : ∀ b, b ≠ g → (w.setCell ⟨g, xs.length * sz + j, none⟩ u).heap[b]? = w.heap[b]? := fun b hb => Below.heap_setCell _ _ _ _ hb
    have hsame : (w.setCell ⟨g, xs.length * sz + j, none⟩ u).heap.size = w.heap.size := by simp [World.setCell]
    by_cases hlt : i < xs.length
    · rw [List.getElem?_append_left (by omega)] at hi
      rw [List.getElem?_append_left hlt] at hy
      have := hA i cs' y (by rw [List.getElem?_append_left (by omega)]; exact hi) (by rw [List.getElem?_append_left hlt]; exact hy)
      exact A.keep this fun b hb => keep b fun e => hb.2 (by rw [e]; rfl)
    · have hii : i = xs.length := by
        have := (List.getElem?_eq_some_iff.1 hy).1
        simp at this
        omega
      subst hii
      rw [List.getElem?_append_right (by omega)] at hi
      rw [List.getElem?_append_right (Nat.le_refl _)] at hy
      simp [hl] at hi
      simp at hy
      subst hi hy
      exact A.mono (A.keep hx fun b hb => keep b fun e => hb.2 e.symm) fun b hb => ⟨hb.1, fun e => hb.2 (by simpa [Value.ownBlock] using e)⟩

/-- A store at one place, made early or late. -/
theorem below_set_again {B : Nat} {ws w1 : World} {p : Addr} {u u' : Value} (h : Below B (ws.setCell p u) w1) (hp : p.block < B) (hB : B ≤ ws.heap.size) : Below B (ws.setCell p u') (w1.setCell p u') := by
  refine ⟨h.os, h.tape, h.output, by simpa [World.setCell] using h.size, fun k hk => ?_⟩
  have hk' := h.block k hk
  by_cases e : k = p.block
  · subst e
    simp only [World.setCell, Array.getElem?_modify, if_true] at hk' ⊢
    rw [hk']
    cases ws.heap[p.block]? with
    | none => rfl
    | some o =>
      cases o with
      | cells cs t fr => cases hs : p.spot <;> simp [hs]
      | map m => rfl
      | _ => rfl
  · rw [Below.heap_setCell _ _ _ _ e] at hk' ⊢
    rw [Below.heap_setCell _ _ _ _ e]
    exact hk'

/-- A batch, or one whose entries are still being built. -/
def rBV : Rp (Batch ⊕ (Int × Int × Value)) :=
  ⟨fun S w cs x => match x with | .inl b => rBatch.r S w cs b | .inr y => cs = [.int .u64 y.1, .int .u64 y.2.1, y.2.2],
   fun {S w w' cs x} h hk => by cases x with | inl b => exact rBatch.keep h hk | inr y => exact h,
   fun {S S' w cs x} h hk => by cases x with | inl b => exact rBatch.mono h hk | inr y => exact h⟩

/-- An own slice of batches, finished but for the last one, whose entries are an own slice that lies behind all else. -/
structure Bld2 (lo : Nat) (TB TE : TypeId) (w : World) (g c : Nat) (cells : List (List Value)) (s : Nat) (bs0 : List Batch) (e b : Int) (es : List Entry) (vl : Value) : Prop where
  own : OwnElsF (fun x => lo ≤ x ∧ x < s) rBV lo TB 3 w (.slice (some ⟨g, 0, none⟩) (bs0.length + 1) c) (bs0.map .inl ++ [.inr (e, b, vl)]) (cells ++ [[.int .u64 e, .int .u64 b, vl]])
  len : cells.length = bs0.length
  lt : g < s
  le : s ≤ w.heap.size
  last : OwnEls s rEntry s TE 2 w vl es
  he : 0 ≤ e ∧ e ≤ 18446744073709551615
  hb : 0 ≤ b ∧ b ≤ 18446744073709551615

def Bld (lo : Nat) (TB TE : TypeId) (w : World) (v : Value) (bs : List Batch) : Prop :=
  (bs = [] ∧ v = .slice none 0 0) ∨ ∃ g c cells s bs0 e b es vl, v = .slice (some ⟨g, 0, none⟩) (bs0.length + 1) c ∧ bs = bs0 ++ [⟨e, b, es⟩] ∧ Bld2 lo TB TE w g c cells s bs0 e b es vl

theorem OwnElsF.inl {F : Nat → Prop} {base : Nat} {e : TypeId} {sz : Nat} {v : Value} {xs : List Batch} {cells : List (List Value)} (h : OwnElsF F rBatch base e sz w v xs cells) : OwnElsF F rBV base e sz w v (xs.map .inl) cells := by
  obtain ⟨ho, hlen, hsz, hA⟩ := h
  refine ⟨by simpa using ho, by simpa using hlen, hsz, fun i cs x hi hx => ?_⟩
  rw [List.getElem?_map] at hx
  cases hxi : xs[i]? with
  | none => rw [hxi] at hx; cases hx
  | some y => rw [hxi] at hx; cases hx; exact hA i cs y hi hxi

theorem Bld2.close {lo : Nat} {TB TE : TypeId} {g c : Nat} {cells : List (List Value)} {s : Nat} {bs0 : List Batch} {e b : Int} {es : List Entry} {vl : Value} (h : Bld2 lo TB TE w g c cells s bs0 e b es vl) (hlo : lo ≤ s) :
    OwnEls lo rBatch lo TB 3 w (.slice (some ⟨g, 0, none⟩) (bs0.length + 1) c) (bs0 ++ [⟨e, b, es⟩]) := by
  obtain ⟨⟨ho, hlen, hsz, hA⟩, h1, h2, h3, h4, h5, h6⟩ := h
  refine ⟨cells ++ [[.int .u64 e, .int .u64 b, vl]], by simpa using ho, by simpa using hlen, hsz, fun i cs x hi hx => ?_⟩
  by_cases hlt : i < bs0.length
  · rw [List.getElem?_append_left hlt] at hx
    have := hA i cs (.inl x) hi (by rw [List.getElem?_append_left (by simpa using hlt), List.getElem?_map, hx]; rfl)
    exact rBatch.mono this fun b hb => ⟨hb.1.1, Nat.lt_of_lt_of_le hb.1.2 h3, hb.2⟩
  · have hii : i = bs0.length := by
      have := (List.getElem?_eq_some_iff.1 hx).1
      simp at this
      omega
    subst hii
    rw [List.getElem?_append_right (by omega)] at hi
    rw [List.getElem?_append_right (Nat.le_refl _)] at hx
    simp [h1] at hi
    simp at hx
    subst hi hx
    have hv := OwnEls.slice (Nat.le_refl _) h4
    exact batch_mk (x := ⟨e, b, es⟩) h5 h6 (rEntries.mono hv fun b hb => ⟨by omega, hb.2, by simp [Value.ownBlock]; omega⟩)

theorem Bld.close {lo : Nat} {TB TE : TypeId} {v : Value} {bs : List Batch} (h : Bld lo TB TE w v bs) : OwnEls lo rBatch lo TB 3 w v bs := by
  rcases h with ⟨rfl, rfl⟩ | ⟨g, c, cells, s, bs0, e, b, es, vl, rfl, rfl, h⟩
  · exact OwnEls.nil
  · refine h.close ?_
    obtain ⟨⟨ho, _⟩, _, h2, _⟩ := h
    rcases ho.2 with ⟨h0, _⟩ | ⟨g', cap, cur, h1, hb, _⟩
    · cases h0
    · simp at h1
      omega

/-- A batch without entries is put behind all others. -/
theorem Bld2.start {lo : Nat} {TB TE : TypeId} {g c : Nat} {v : Value} {bs : List Batch} {e b : Int} {cells : List (List Value)} (h : OwnElsAt lo rBatch lo TB 3 w v bs cells) (he : 0 ≤ e ∧ e ≤ 18446744073709551615) (hb : 0 ≤ b ∧ b ≤ 18446744073709551615)
    (hown : w'.ownsRow lo TB 3 (.slice (some ⟨g, 0, none⟩) (bs.length + 1) c) (bs.length + 1) (cells.flatten ++ [.int .u64 e, .int .u64 b, .slice none 0 0])) (hg : w.grownBy w' v.ownBlock)
    (hat : (Value.slice (some ⟨g, 0, none⟩) (bs.length + 1) c).ownBlock = v.ownBlock ∨ (Value.slice (some ⟨g, 0, none⟩) (bs.length + 1) c).ownBlock = some w.heap.size) :
    Bld2 lo TB TE w' g c cells w'.heap.size bs e b [] (.slice none 0 0) := by
  have h' := (OwnElsF.of h).inl
  have h2 : OwnElsAt lo rBV lo TB 3 w v (bs.map .inl) cells := h'.to fun b hb => hb
  have h3 := OwnElsAt.push (v' := .slice (some ⟨g, 0, none⟩) (bs.length + 1) c) (x := (.inr (e, b, .slice none 0 0) : Batch ⊕ (Int × Int × Value))) h2 rfl rfl (by simpa using hown) hg hat hg.size
  have hlt : g < w'.heap.size := by
    rcases hown.2 with ⟨h0, _⟩ | ⟨g', cap, cur, h1, hb, hk, _⟩
    · cases h0
    · simp at h1
      rw [h1.1]
      exact (Array.getElem?_eq_some_iff.1 hk).1
  exact ⟨OwnElsF.of h3, by simpa using h.2.1, hlt, Nat.le_refl _, OwnEls.nil, he, hb⟩

/-- The last one's entries have grown by one. -/
theorem Bld2.grow {lo : Nat} {TB TE : TypeId} {g c : Nat} {cells : List (List Value)} {s : Nat} {bs0 : List Batch} {e b : Int} {es es' : List Entry} {vl vl' : Value} (h : Bld2 lo TB TE w g c cells s bs0 e b es vl)
    (hk : ∀ b, b < s → w'.heap[b]? = w.heap[b]?) (hs : w.heap.size ≤ w'.heap.size) (hl : OwnEls s rEntry s TE 2 w' vl' es') :
    Bld2 lo TB TE (w'.setCell ⟨g, bs0.length * 3 + 2, none⟩ vl') g c cells s bs0 e b es' vl' := by
  obtain ⟨ho, h1, h2, h3, h4, h5, h6⟩ := h
  have hsame : (w'.setCell ⟨g, bs0.length * 3 + 2, none⟩ vl').heap.size = w'.heap.size := by simp [World.setCell]
  have ho' := ho.keep (w' := w') (fun b hb => hk b hb.2) (fun g' hg' => hk g' (by simp [Value.ownBlock] at hg'; omega))
  have h7 := OwnElsF.setLast (x' := (.inr (e, b, vl') : Batch ⊕ (Int × Int × Value))) (j := 2) (u := vl') ho' (by simpa using h1) (by omega) (show _ = _ from rfl)
  refine ⟨by simpa using h7, h1, h2, by rw [hsame]; omega, ?_, h5, h6⟩
  obtain ⟨cs, hc⟩ := hl
  have h8 := (OwnElsF.of hc).keep (w' := w'.setCell ⟨g, bs0.length * 3 + 2, none⟩ vl') (fun b hb => Below.heap_setCell _ _ _ _ (by dsimp only; omega)) (fun g' hg' => Below.heap_setCell _ _ _ _ (by
    have := (hc.1.lt g' hg').1
    dsimp only; omega))
  exact ⟨cs, h8.to fun b hb => by rw [hsame]; exact hb⟩

/-- A world in which no block but one ahead of all has turned keeps it. -/
theorem Bld2.keep {lo : Nat} {TB TE : TypeId} {g c : Nat} {cells : List (List Value)} {s : Nat} {bs0 : List Batch} {e b : Int} {es : List Entry} {vl : Value} (h : Bld2 lo TB TE w g c cells s bs0 e b es vl) (p : Nat) (hp : p < lo)
    (hk : ∀ b, b < w.heap.size → b ≠ p → w'.heap[b]? = w.heap[b]?) (hs : w.heap.size ≤ w'.heap.size) : Bld2 lo TB TE w' g c cells s bs0 e b es vl := by
  obtain ⟨ho, h1, h2, h3, h4, h5, h6⟩ := h
  have hlo : lo ≤ g := by
    rcases ho.1.2 with ⟨h0, _⟩ | ⟨g', cap, cur, hv, hb, _⟩
    · cases h0
    · simp at hv
      omega
  refine ⟨ho.keep (fun b hb => hk b (by omega) (by omega)) (fun g' hg' => hk g' (by simp [Value.ownBlock] at hg'; omega) (by simp [Value.ownBlock] at hg'; omega)), h1, h2, by omega, ?_, h5, h6⟩
  obtain ⟨cs, hc⟩ := h4
  have h8 := (OwnElsF.of hc).keep (w' := w') (fun b hb => hk b hb.2 (by omega)) (fun g' hg' => hk g' (hc.1.lt g' hg').2 (by have := (hc.1.lt g' hg').1; omega))
  exact ⟨cs, h8.to fun b hb => ⟨hb.1, by omega⟩⟩

/-- The place where the last one's entries are noted. -/
theorem Bld2.place {lo : Nat} {TB TE : TypeId} {g c : Nat} {cells : List (List Value)} {s : Nat} {bs0 : List Batch} {e b : Int} {es : List Entry} {vl : Value} (h : Bld2 lo TB TE w g c cells s bs0 e b es vl) :
    w.cell? ⟨g, bs0.length * 3 + 2, none⟩ = some vl ∧ w.frozen? ⟨g, bs0.length * 3 + 2, none⟩ = false := by
  obtain ⟨⟨ho, hlen, hsz, hA⟩, h1, _⟩ := h
  rcases ho.2 with ⟨h0, _⟩ | ⟨g', cap, cur, hv, hbg, hg, hn, hc, hcur, hx⟩
  · cases h0
  · simp at hv
    obtain ⟨rfl, rfl⟩ := hv
    refine ⟨?_, Blk.free hg _⟩
    rw [Blk.cell hg]
    have hf := flatten_at 3 (cells ++ [[.int .u64 e, .int .u64 b, vl]]) hsz bs0.length 2 [.int .u64 e, .int .u64 b, vl] vl (by rw [List.getElem?_append_right (by omega), h1]; simp) rfl
    rw [← hx, List.getElem?_take] at hf
    split at hf
    · simpa using hf
    · cases hf
end
end Go.Bs
