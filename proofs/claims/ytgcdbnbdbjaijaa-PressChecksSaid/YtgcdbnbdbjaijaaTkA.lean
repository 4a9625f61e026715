/- Tokens whose last run is still being read. -/
import Derived.Test.YtgcdbnbdbjaijaaToF
namespace Go.Bs
open Go.RowKit
theorem own_bytes3 {w : World} {base : Nat} {e : TypeId} {v : Value} {l : List UInt8} {n : Nat} (hn : n = l.length) (h : w.ownsRow base e 1 v n (byteCells l)) : rBytes.r (fun b => v.ownBlock = some b) w [v] l := by
  subst hn
  rcases h.2 with ⟨rfl, h0⟩ | ⟨g, cap, cur, rfl, hbg, hg, hn, hc, hcur, hx⟩
  · have : l = [] := List.eq_nil_of_length_eq_zero h0
    subst this
    exact rSl_mk rfl (Nat.le_refl _) (Nat.zero_le _) (.inl rfl)
  · refine rSl_mk rfl hn hc (.inr ⟨g, 0, rfl, rfl, fun i x hi => ⟨[.int .u8 (x.toNat : Int)], rfl, fun j v hj => ?_, rfl⟩⟩)
    have hj0 : j = 0 := by
      rcases j with _ | j
      · rfl
      · simp at hj
    subst hj0
    simp at hj
    subst hj
    have hi' : i < l.length := (List.getElem?_eq_some_iff.1 hi).1
    rw [Nat.zero_add, Nat.mul_one, Nat.add_zero, Blk.cell hg i]
    have e1 : cur[i]? = (cur.toList.take (l.length * 1))[i]? := by
      rw [List.getElem?_take, if_pos (by omega)]; simp
    rw [e1, hx]
    simp [byteCells, hi]
end Go.Bs
namespace Go.Proofs.Ytgcdbnbdbjaijaa
open Go.RowKit Go.Bs Go.Maps
set_option linter.unusedVariables false
set_option linter.unusedSimpArgs false

/-- A token, or a run whose bytes are still being read. -/
def rTV : Rp (Tok ⊕ Value) :=
  ⟨fun S w cs x => match x with | .inl t => rTok.r S w cs t | .inr v => cs = [v, .int .i64 0, .int .i64 0],
   fun {S w w' cs x} h hk => by cases x with | inl b => exact rTok.keep h hk | inr y => exact h,
   fun {S S' w cs x} h hk => by cases x with | inl b => exact rTok.mono h hk | inr y => exact h⟩

structure TBld (lo : Nat) (w : World) (g c : Nat) (cells : List (List Value)) (ts : List Tok) (D : List UInt8) (vl : Value) : Prop where
  own : OwnElsF (fun x => lo ≤ x ∧ x < w.heap.size ∧ vl.ownBlock ≠ some x) rTV lo 30 3 w (.slice (some ⟨g, 0, none⟩) (ts.length + 1) c) (ts.map .inl ++ [.inr vl]) (cells ++ [[vl, .int .i64 0, .int .i64 0]])
  len : cells.length = ts.length
  last : w.ownsRow lo 5 1 vl D.length (byteCells D)
  ne : vl.ownBlock ≠ some g

theorem tok_inl {w : World} {F : Nat → Prop} {base : Nat} {e : TypeId} {sz : Nat} {v : Value} {xs : List Tok} {cells : List (List Value)} (h : OwnElsF F rTok base e sz w v xs cells) : OwnElsF F rTV base e sz w v (xs.map .inl) cells := by
  obtain ⟨ho, hlen, hsz, hA⟩ := h
  refine ⟨by simpa using ho, by simpa using hlen, hsz, fun i cs x hi hx => ?_⟩
  rw [List.getElem?_map] at hx
  cases hxi : xs[i]? with
  | none => rw [hxi] at hx; cases hx
  | some y => rw [hxi] at hx; cases hx; exact hA i cs y hi hxi

theorem TBld.g_lt {lo : Nat} {w : World} {g c : Nat} {cells : List (List Value)} {ts : List Tok} {D : List UInt8} {vl : Value} (h : TBld lo w g c cells ts D vl) : lo ≤ g ∧ g < w.heap.size := h.own.1.lt g rfl

theorem TBld.close {lo : Nat} {w : World} {g c : Nat} {cells : List (List Value)} {ts : List Tok} {D : List UInt8} {vl : Value} (h : TBld lo w g c cells ts D vl) :
    OwnElsAt lo rTok lo 30 3 w (.slice (some ⟨g, 0, none⟩) (ts.length + 1) c) (ts ++ [⟨D, 0, 0⟩]) (cells ++ [[vl, .int .i64 0, .int .i64 0]]) := by
  obtain ⟨⟨ho, hlen, hsz, hA⟩, h1, h4, h5⟩ := h
  refine ⟨by simpa using ho, by simpa using hlen, hsz, fun i cs x hi hx => ?_⟩
  by_cases hlt : i < ts.length
  · rw [List.getElem?_append_left hlt] at hx
    have := hA i cs (.inl x) hi (by rw [List.getElem?_append_left (by simpa using hlt), List.getElem?_map, hx]; rfl)
    exact rTok.mono this fun b hb => ⟨hb.1.1, hb.1.2.1, hb.2⟩
  · have hii : i = ts.length := by
      have := (List.getElem?_eq_some_iff.1 hx).1
      simp at this
      omega
    subst hii
    rw [List.getElem?_append_right (by omega)] at hi
    rw [List.getElem?_append_right (Nat.le_refl _)] at hx
    simp [h1] at hi
    simp at hx
    subst hi hx
    exact tok_mk (x := ⟨D, 0, 0⟩) (rBytes.mono (own_bytes3 rfl h4) fun b hb => ⟨(h4.lt b hb).1, (h4.lt b hb).2, fun e => h5 (by rw [hb]; exact e.symm)⟩) (by simp) (by simp)

/-- A run of one byte is put behind all tokens. -/
theorem TBld.start {lo : Nat} {w w' : World} {g c : Nat} {v : Value} {ts : List Tok} {y : UInt8} {cells : List (List Value)} (hlo : lo ≤ w.heap.size) (h : OwnElsAt lo rTok lo 30 3 w v ts cells)
    (hown : w'.ownsRow lo 30 3 (.slice (some ⟨g, 0, none⟩) (ts.length + 1) c) (ts.length + 1) (cells.flatten ++ [.slice (some ⟨w.heap.size, 0, none⟩) 1 1, .int .i64 0, .int .i64 0]))
    (hg : ((w.alloc (.cells #[.int .u8 (y.toNat : Int)] 5)).alloc (.cells #[.slice (some ⟨w.heap.size, 0, none⟩) 1 1, .int .i64 0, .int .i64 0] 30)).grownBy w' v.ownBlock)
    (hat : (Value.slice (some ⟨g, 0, none⟩) (ts.length + 1) c).ownBlock = v.ownBlock ∨ (Value.slice (some ⟨g, 0, none⟩) (ts.length + 1) c).ownBlock = some ((w.alloc (.cells #[.int .u8 (y.toNat : Int)] 5)).alloc (.cells #[.slice (some ⟨w.heap.size, 0, none⟩) 1 1, .int .i64 0, .int .i64 0] 30)).heap.size) :
    TBld lo w' g c cells ts [y] (.slice (some ⟨w.heap.size, 0, none⟩) 1 1) := by
  have hv := fun q (hq : v.ownBlock = some q) => (h.1.lt q hq).2
  generalize hW : (w.alloc (.cells #[.int .u8 (y.toNat : Int)] 5)).alloc (.cells #[.slice (some ⟨w.heap.size, 0, none⟩) 1 1, .int .i64 0, .int .i64 0] 30) = W at *
  have keep : ∀ b, b < w.heap.size → W.heap[b]? = w.heap[b]? := fun b hb => by
    rw [← hW, Below.heap_alloc _ _ _ (by simp; omega), Below.heap_alloc _ _ _ hb]
  have hs : W.heap.size = w.heap.size + 2 := by rw [← hW]; simp
  have hnew : W.heap[w.heap.size]? = some (.cells #[.int .u8 (y.toNat : Int)] 5 (0, 0)) := by
    rw [← hW, Below.heap_alloc _ _ _ (by simp)]
    exact World.alloc_heap_new w _
  have hgw : g ≠ w.heap.size := fun e => by
    rcases hat with h1 | h1
    · have := hv g (by rw [← h1]; rfl); omega
    · have := Option.some.inj h1; simp at this; omega
  have hs' := hg.size
  have h1 := tok_inl (((OwnElsF.of h).keep (w' := W) (fun b hb => keep b hb.2) (fun q hq => keep q (hv q hq))).mono (F' := fun x => lo ≤ x ∧ x < W.heap.size ∧ x ≠ w.heap.size) fun b hb => ⟨hb.1, by omega, by omega⟩)
  have h2 := OwnElsF.push (v' := .slice (some ⟨g, 0, none⟩) (ts.length + 1) c) (x := (.inr (.slice (some ⟨w.heap.size, 0, none⟩) 1 1) : Tok ⊕ Value)) h1 (fun b hb => hb.2.1) (news := [.slice (some ⟨w.heap.size, 0, none⟩) 1 1, .int .i64 0, .int .i64 0]) rfl rfl (by simpa using hown) hg hat
  refine ⟨h2.mono fun b hb => ⟨hb.1, by omega, fun e => hb.2.2 (Option.some.inj e).symm⟩, h.2.1, ?_, fun e => hgw (Option.some.inj e).symm⟩
  refine own_new1 hlo ((hg.block w.heap.size (by omega) (fun e => ?_)).trans hnew)
  have := hv w.heap.size e.symm
  omega

/-- The run has grown by one byte. -/
theorem TBld.grow {lo : Nat} {w w' : World} {g c : Nat} {cells : List (List Value)} {ts : List Tok} {D D' : List UInt8} {vl vl' : Value} (h : TBld lo w g c cells ts D vl)
    (hk : ∀ b, b < w.heap.size → vl.ownBlock ≠ some b → w'.heap[b]? = w.heap[b]?) (hs : w.heap.size ≤ w'.heap.size) (hl : w'.ownsRow lo 5 1 vl' D'.length (byteCells D'))
    (hat : vl'.ownBlock = vl.ownBlock ∨ ∃ q, vl'.ownBlock = some q ∧ w.heap.size ≤ q) :
    TBld lo (w'.setCell ⟨g, ts.length * 3, none⟩ vl') g c cells ts D' vl' := by
  have hgl := h.g_lt
  obtain ⟨ho, h1, h4, h5⟩ := h
  have hsame : (w'.setCell ⟨g, ts.length * 3, none⟩ vl').heap.size = w'.heap.size := by simp [World.setCell]
  have hne' : vl'.ownBlock ≠ some g := fun e => by
    rcases hat with h | ⟨q, h, hq⟩
    · exact h5 (h ▸ e)
    · rw [h] at e; have := Option.some.inj e; omega
  have ho' := ho.keep (w' := w') (fun b hb => hk b hb.2.1 hb.2.2) (fun g' hg' => by
    have e : g = g' := by simpa [Value.ownBlock] using hg'
    subst e
    exact hk g hgl.2 h5)
  have h7 := OwnElsF.setLast (x' := (.inr vl' : Tok ⊕ Value)) (j := 0) (u := vl') ho' (by simpa using h1) (by omega) (show _ = _ from rfl)
  rw [Nat.add_zero, List.length_map] at h7
  have h8 : OwnElsF (fun x => lo ≤ x ∧ x < w.heap.size ∧ vl.ownBlock ≠ some x) rTV lo 30 3 (w'.setCell ⟨g, ts.length * 3, none⟩ vl') (.slice (some ⟨g, 0, none⟩) (ts.length + 1) c) (ts.map .inl ++ [.inr vl']) (cells ++ [[vl', .int .i64 0, .int .i64 0]]) := h7
  refine ⟨OwnElsF.mono h8 fun b hb => ⟨hb.1, by rw [hsame]; omega, fun e => ?_⟩, h1, own_keep hl fun q hq => Below.heap_setCell _ _ _ _ (fun e => hne' (by rw [hq]; exact congrArg some e)), hne'⟩
  rcases hat with h | ⟨q, h, hq⟩
  · exact hb.2.2 (h ▸ e)
  · rw [h] at e; have := Option.some.inj e; omega

theorem TBld.later {lo : Nat} {w w' : World} {g c : Nat} {cells : List (List Value)} {ts : List Tok} {D : List UInt8} {vl : Value} (h : TBld lo w g c cells ts D vl) (hb : Below w.heap.size w w') : TBld lo w' g c cells ts D vl := by
  have hgl := h.g_lt
  obtain ⟨ho, h1, h4, h5⟩ := h
  refine ⟨(ho.keep (w' := w') (fun b h => hb.block b h.2.1) (fun g' hg' => hb.block g' (ho.1.lt g' hg').2)).mono fun b hb' => ⟨hb'.1, by have := hb.size; omega, hb'.2.2⟩, h1, own_below h4 hb, h5⟩

theorem TBld.place {lo : Nat} {w : World} {g c : Nat} {cells : List (List Value)} {ts : List Tok} {D : List UInt8} {vl : Value} (h : TBld lo w g c cells ts D vl) :
    w.cell? ⟨g, ts.length * 3, none⟩ = some vl ∧ w.cell? ⟨g, ts.length * 3 + 1, none⟩ = some (.int .i64 0) ∧ w.frozen? ⟨g, ts.length * 3, none⟩ = false := by
  obtain ⟨⟨ho, hlen, hsz, hA⟩, h1, _⟩ := h
  rcases ho.2 with ⟨h0, _⟩ | ⟨g', cap, cur, hv, hbg, hg, hn, hc, hcur, hx⟩
  · cases h0
  · simp at hv
    obtain ⟨rfl, rfl⟩ := hv
    have hf : ∀ j u, [vl, Value.int .i64 0, .int .i64 0][j]? = some u → cur[ts.length * 3 + j]? = some u := fun j u hu => by
      have hf := flatten_at 3 (cells ++ [[vl, .int .i64 0, .int .i64 0]]) hsz ts.length j [vl, .int .i64 0, .int .i64 0] u (by rw [List.getElem?_append_right (by omega), h1]; simp) hu
      rw [← hx, List.getElem?_take] at hf
      split at hf
      · simpa using hf
      · cases hf
    refine ⟨?_, ?_, Blk.free hg _⟩
    · rw [Blk.cell hg]; exact hf 0 vl rfl
    · rw [Blk.cell hg]; exact hf 1 _ rfl
end Go.Proofs.Ytgcdbnbdbjaijaa
