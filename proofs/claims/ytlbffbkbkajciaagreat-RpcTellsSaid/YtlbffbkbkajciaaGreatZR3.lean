/- Mini: Needed by rpcTells_walk, part 3: texts put together by shake.py; no condition. -/
import Derived.Test.YtlbffbkbkajciaaGreatZR1
import Derived.StillTail
import Derived.RegionTactic
import Derived.OrdersHeld
import Derived.Deep.RegionHeld
import Derived.Test.YtlbffbkbkajciaaGreatZR2
import Derived.Deep.RegionHeld3
import Derived.IntWalk
import Derived.ScopeJumps
import Derived.WalkMore
import Derived.Deep.Cut
set_option linter.unusedVariables false
set_option linter.unusedSimpArgs false
set_option maxRecDepth 100000
set_option maxHeartbeats 6400000
namespace Go.Bs
theorem zCe{p:Prop}(h:p:=by simpa using hlen):p:=h
theorem zB8{p:Prop}(h:p:=by rw [By (by omega), h1]; simp):p:=h
theorem zB6{p:Prop}(h:p:=by rw [← hDm]; exact Ah.mono hsub fun q hq => hq.1):p:=h
theorem zB0{p:Prop}(h:p:=by have := HBP.out HK.out; omega):p:=h
theorem zBw{p:Prop}(h:p:=by simp [maxLen]; omega):p:=h
theorem zBo{p:Prop}(h:p:=by simp [Value.ownBlock] at hg'; omega):p:=h
theorem zBl{p:Prop}(h:p:=by { have e' : some w.heap.size = some g := e; injection e' with e'; omega }):p:=h
theorem zBg{p:Prop}(h:p:=by rw [Bq (by simpa using hlt), JL, hx]; rfl):p:=h
theorem zAz{p:Prop}(h:p:=by first | rfl | simp):p:=h
theorem ZC{p:Prop}(h:p:=by rw [HDM.out]; exact HSB.out _ (by (repeat (first | exact Below.refl _ _ | assumption | (refine AF ?_ _) | (refine Below.setCell ?_ (by first | omega | (simp; done) | (simp; omega)) _) | (refine Below.drew ?_) | (refine below_drewN ?_ _) | (refine Af (by assumption) ?_))))):p:=h
theorem zT{p:Prop}(h:p:=by rfl):p:=h
theorem zE{p:Prop}(h:p:=by decide +kernel):p:=h
theorem Aa:type_of% @List.setIfInBounds_toArray:=@List.setIfInBounds_toArray
theorem Ab:type_of% @List.set_cons_zero:=@List.set_cons_zero
theorem Ac:type_of% @List.set_cons_succ:=@List.set_cons_succ
theorem Ap:type_of% @wpAnyH_take:=@wpAnyH_take
theorem AG:type_of% @AllReadyH.cons:=@AllReadyH.cons
theorem AP:type_of% @wpAnyH_ready:=@wpAnyH_ready
theorem CG:type_of% @wpAnyH_done:=@wpAnyH_done
theorem CL:type_of% @Nat.pow_succ:=@Nat.pow_succ
theorem Gy:type_of% @List.append_nil:=@List.append_nil
theorem GB:type_of% @List.getElem?_toArray:=@List.getElem?_toArray
theorem G4:type_of% @Nat.pow_le_pow_right:=@Nat.pow_le_pow_right
theorem Hq:type_of% @IntKind.wrap_u64:=@IntKind.wrap_u64
open Go.RowKit
section
variable {w w' : World} {α : Type}
theorem Iq (sz : Nat) : ∀ (l : List (List Value)), (∀ c ∈ l, c.length = sz) → l.flatten.length = l.length * sz
 | [], _ => by simp
 | a :: l, h => by
  rw [Dx, Ag, h a zO, Iq sz l fun c hc => h c (by simp [hc]), AQ, Nat.succ_mul]
  omega
def Bn (F : Nat → Prop) (A : Rp α) (base : Nat) (e : TypeId) (sz : Nat) (w : World) (v : Value) (xs : List α) (cells : List (List Value)) : Prop :=
 w.ownsRow base e sz v xs.length cells.flatten ∧ cells.length = xs.length ∧ (∀ c ∈ cells, c.length = sz) ∧
  ∀ (i : Nat) cs x, cells[i]? = some cs → xs[i]? = some x → A.r (fun b => F b ∧ v.ownBlock ≠ some b) w cs x
theorem Bn.of {lo : Nat} {A : Rp α} {base : Nat} {e : TypeId} {sz : Nat} {v : Value} {xs : List α} {cells : List (List Value)} (h : CP lo A base e sz w v xs cells) : Bn (fun b => lo ≤ b ∧ b < w.heap.size) A base e sz w v xs cells :=
 ⟨h.1, h.2.1, h.2.2.1, fun i cs x hi hx => A.mono (h.2.2.2 i cs x hi hx) fun b hb => ⟨⟨hb.1, hb.2.1⟩, hb.2.2⟩⟩
theorem Bn.to {F : Nat → Prop} {lo : Nat} {A : Rp α} {base : Nat} {e : TypeId} {sz : Nat} {v : Value} {xs : List α} {cells : List (List Value)} (h : Bn F A base e sz w v xs cells) (hF : ∀ b, F b → lo ≤ b ∧ b < w.heap.size) : CP lo A base e sz w v xs cells :=
 ⟨h.1, h.2.1, h.2.2.1, fun i cs x hi hx => A.mono (h.2.2.2 i cs x hi hx) fun b hb => ⟨(hF b hb.1).1, (hF b hb.1).2, hb.2⟩⟩
theorem Bn.keep {F : Nat → Prop} {A : Rp α} {base : Nat} {e : TypeId} {sz : Nat} {v : Value} {xs : List α} {cells : List (List Value)} (h : Bn F A base e sz w v xs cells) (hF : ∀ b, F b → w'.heap[b]? = w.heap[b]?) (hv : ∀ g, v.ownBlock = some g → w'.heap[g]? = w.heap[g]?) : Bn F A base e sz w' v xs cells := by
 obtain ⟨ho, hlen, hsz, hA⟩ := h
 refine ⟨⟨ho.1, ?_⟩, hlen, hsz, fun i cs x hi hx => A.keep (hA i cs x hi hx) fun b hb => hF b hb.1⟩
 rcases ho.2 with h0 | ⟨g, cap, cur, h1, h2, h3, h4⟩
 ·exact .inl h0
 ·exact .inr ⟨g, cap, cur, h1, h2, by rw [hv g (by rw [h1]; rfl)]; exact h3, h4⟩
theorem Bn.mono {F F' : Nat → Prop} {A : Rp α} {base : Nat} {e : TypeId} {sz : Nat} {v : Value} {xs : List α} {cells : List (List Value)} (h : Bn F A base e sz w v xs cells) (hF : ∀ b, F b → F' b) : Bn F' A base e sz w v xs cells :=
 ⟨h.1, h.2.1, h.2.2.1, fun i cs x hi hx => A.mono (h.2.2.2 i cs x hi hx) fun b hb => ⟨hF b hb.1, hb.2⟩⟩
theorem Bn.nil {F : Nat → Prop} {A : Rp α} {base : Nat} {e : TypeId} {sz : Nat} : Bn F A base e sz w (.slice none 0 0) [] [] :=
 ⟨⟨zO, .inl ⟨rfl, rfl⟩⟩, rfl, zO, fun i cs x h => by simp at h⟩
theorem Bn.push {F : Nat → Prop} {A : Rp α} {base : Nat} {e : TypeId} {sz : Nat} {v v' : Value} {xs : List α} {news : List Value} {x : α} {cells : List (List Value)} (h : Bn F A base e sz w v xs cells) (hF : ∀ b, F b → b < w.heap.size)
  (hn : news.length = sz) (hx : A.r (fun b => F b ∧ v.ownBlock ≠ some b) w news x)
  (hown : w'.ownsRow base e sz v' (xs.length + 1) (cells.flatten ++ news)) (hg : w.grownBy w' v.ownBlock) (hat : v'.ownBlock = v.ownBlock ∨ v'.ownBlock = some w.heap.size) : Bn F A base e sz w' v' (xs ++ [x]) (cells ++ [news]) := by
 obtain ⟨ho, hlen, hsz, hA⟩ := h
 have lift : ∀ cs y, A.r (fun b => F b ∧ v.ownBlock ≠ some b) w cs y → A.r (fun b => F b ∧ v'.ownBlock ≠ some b) w' cs y := fun cs y hr =>
  A.mono (A.keep hr fun b hb => hg.block b (hF b hb.1) (fun e => hb.2 e.symm)) fun b hb => ⟨hb.1, fun e => by
   rcases hat with h | h
   ·exact hb.2 (h ▸ e)
   ·rw [h] at e; have := BH e; have := hF b hb.1; omega⟩
 refine ⟨?_, by simp [hlen], ?_, ?_⟩
 ·rw [Dy, Ag]
  simpa using hown
 ·intro c hc
  rcases List.mem_append.1 hc with h | h
  ·exact hsz c h
  ·simp at h; subst h; exact hn
 ·intro i cs y hi hy
  by_cases hlt : i < xs.length
  ·rw [Bq zC] at hi
   rw [Bq hlt] at hy
   exact lift _ _ (hA i cs y hi hy)
  ·have hii : i = xs.length := by
    have := (List.getElem?_eq_some_iff.1 hy).1
    simp at this
    omega
   subst hii;rw [By zC] at hi
   rw [By (Ak _)] at hy
   simp [hlen] at hi
   simp at hy
   subst hi hy;exact lift _ _ hx
theorem Bn.slice {F : Nat → Prop} {A : Rp α} {base : Nat} {e : TypeId} {sz : Nat} {v : Value} {xs : List α} {cells : List (List Value)} (h : Bn F A base e sz w v xs cells) : (rSl sz A).r (fun b => F b ∨ v.ownBlock = some b) w [v] xs := by
 obtain ⟨hown, hlen, hsz, hA⟩ := h
 rcases hown.2 with ⟨rfl, h0⟩ | ⟨g, cap, cur, rfl, hbg, hg, hn, hc, hcur, hx⟩
 ·have : xs = [] := AT h0
  subst this;exact Bh rfl (Ak _) (Aj _) (.inl rfl)
 ·refine Bh rfl hn hc (.inr ⟨g, 0, rfl, .inr rfl, fun i x hi => ?_⟩)
  have hi' : i < xs.length := (List.getElem?_eq_some_iff.1 hi).1
  have hic : i < cells.length := zC
  have hcs : cells[i]? = some cells[i] := AR hic
  refine ⟨cells[i], hsz _ (Bl hic), fun j v hj => ?_, A.mono (hA i _ x hcs hi) fun b h => .inl h.1⟩
  have hj' : j < sz := ZM
  have hf := Fj sz cells hsz i j _ v hcs hj
  rw [A3, Blk.cell hg (i * sz + j)]
  have hb : i * sz + j < xs.length * sz := by
   have := CQ sz (show i + 1 ≤ xs.length from hi')
   rw [Nat.succ_mul] at this
   omega
  have e1 : cur[i * sz + j]? = (cur.toList.take (xs.length * sz))[i * sz + j]? := by
   rw [CR, Am hb]; simp
  rw [e1, hx]; exact hf
theorem Bn.Ry {F : Nat → Prop} {A : Rp α} {base : Nat} {e : TypeId} {sz : Nat} {g n c : Nat} {xs : List α} {x x' : α} {cells : List (List Value)} {cs : List Value} {j : Nat} {u : Value}
  (h : Bn F A base e sz w (.slice (some ⟨g, 0, none⟩) n c) (xs ++ [x]) (cells ++ [cs])) (hl : cells.length = xs.length) (hj : j < sz)
  (hx : A.r (fun b => F b ∧ g ≠ b) w (cs.set j u) x') :
  Bn F A base e sz (w.setCell ⟨g, xs.length * sz + j, none⟩ u) (.slice (some ⟨g, 0, none⟩) n c) (xs ++ [x']) (cells ++ [cs.set j u]) := by
 obtain ⟨ho, hlen, hsz, hA⟩ := h
 have hcs : cs.length = sz := hsz cs zO
 have hsz2 : ∀ c' ∈ cells ++ [cs.set j u], c'.length = sz := by
  intro c' hc';rcases List.mem_append.1 hc' with h | h
  ·exact hsz c' (by simp [h])
  ·simp at h; subst h; simpa using hcs
 refine ⟨⟨by rw [Iq sz _ hsz2]; simp [hl], ?_⟩, by simp [hl], hsz2, ?_⟩
 ·rcases ho.2 with ⟨h0, _⟩ | ⟨g', cap, cur, h1, h2, h3, h4, h5, h6, h7⟩
  ·cases h0
  ·simp at h1
   obtain ⟨rfl, rfl, rfl⟩ := h1
   refine .inr ⟨g, c, cur.setIfInBounds (xs.length * sz + j) u, zO, h2, ?_, by simpa using h4, h5, by simpa using h6, ?_⟩
   ·exact Blk.set h3 _ _
   ·have hfl : cells.flatten.length = xs.length * sz := by rw [Iq sz cells fun c hc => hsz c (by simp [hc]), hl]
    have e2 : (cells ++ [cs.set j u]).flatten = (cells ++ [cs]).flatten.set (xs.length * sz + j) u := by
     simp only [Dy, Dx, List.flatten_nil, Gy]
     rw [List.set_append, An zC, hfl]
     congr 2
     omega
    have e3 : (xs ++ [x']).length = (xs ++ [x]).length := zO
    rw [e2, ← h7, e3]
    simp only [Array.toList_setIfInBounds]
    rw [List.take_set]
 ·intro i cs' y hi hy
  have keep : ∀ b, b ≠ g → (w.setCell ⟨g, xs.length * sz + j, none⟩ u).heap[b]? = w.heap[b]? := fun b hb => AM _ _ _ _ hb
  have hsame : (w.setCell ⟨g, xs.length * sz + j, none⟩ u).heap.size = w.heap.size := ZT
  by_cases hlt : i < xs.length
  ·rw [Bq zC] at hi
   rw [Bq hlt] at hy
   have := hA i cs' y (by rw [Bq (by omega)]; exact hi) (by rw [Bq hlt]; exact hy)
   exact A.keep this fun b hb => keep b fun e => hb.2 (by rw [e]; rfl)
  ·have hii : i = xs.length := by
    have := (List.getElem?_eq_some_iff.1 hy).1
    simp at this
    omega
   subst hii;rw [By zC] at hi
   rw [By (Ak _)] at hy
   simp [hl] at hi
   simp at hy
   subst hi hy;exact A.mono (A.keep hx fun b hb => keep b fun e => hb.2 e.symm) fun b hb => ⟨hb.1, fun e => hb.2 (by simpa [Value.ownBlock] using e)⟩
def rBV : Rp (Batch ⊕ (Int × Int × Value)) :=
  ⟨fun S w cs x => match x with | .inl b => G9.r S w cs b | .inr y => cs = [.int .u64 y.1, .int .u64 y.2.1, y.2.2],
   fun {S w w' cs x} h hk => by cases x with | inl b => exact G9.keep h hk | inr y => exact h,
   fun {S S' w cs x} h hk => by cases x with | inl b => exact G9.mono h hk | inr y => exact h⟩
structure Kn (lo : Nat) (TB TE : TypeId) (w : World) (g c : Nat) (cells : List (List Value)) (s : Nat) (bs0 : List Batch) (e b : Int) (es : List Entry) (vl : Value) : Prop where
 own : Bn (fun x => lo ≤ x ∧ x < s) rBV lo TB 3 w (.slice (some ⟨g, 0, none⟩) (bs0.length + 1) c) (bs0.map .inl ++ [.inr (e, b, vl)]) (cells ++ [[.int .u64 e, .int .u64 b, vl]])
 len : cells.length = bs0.length
 lt : g < s
 le : s ≤ w.heap.size
 last : A6 s Qi s TE 2 w vl es
 he : 0 ≤ e ∧ e ≤ 18446744073709551615
 hb : 0 ≤ b ∧ b ≤ 18446744073709551615
def Bld (lo : Nat) (TB TE : TypeId) (w : World) (v : Value) (bs : List Batch) : Prop :=
 (bs = [] ∧ v = .slice none 0 0) ∨ ∃ g c cells s bs0 e b es vl, v = .slice (some ⟨g, 0, none⟩) (bs0.length + 1) c ∧ bs = bs0 ++ [⟨e, b, es⟩] ∧ Kn lo TB TE w g c cells s bs0 e b es vl
theorem Bn.inl {F : Nat → Prop} {base : Nat} {e : TypeId} {sz : Nat} {v : Value} {xs : List Batch} {cells : List (List Value)} (h : Bn F G9 base e sz w v xs cells) : Bn F rBV base e sz w v (xs.map .inl) cells := by
 obtain ⟨ho, hlen, hsz, hA⟩ := h
 refine ⟨by simpa using ho, zCe, hsz, fun i cs x hi hx => ?_⟩
 rw [JL] at hx
 cases hxi : xs[i]? with
 | none => rw [hxi] at hx; cases hx
 | some y => rw [hxi] at hx; cases hx; exact hA i cs y hi hxi
theorem Kn.close {lo : Nat} {TB TE : TypeId} {g c : Nat} {cells : List (List Value)} {s : Nat} {bs0 : List Batch} {e b : Int} {es : List Entry} {vl : Value} (h : Kn lo TB TE w g c cells s bs0 e b es vl) (hlo : lo ≤ s) :
  A6 lo G9 lo TB 3 w (.slice (some ⟨g, 0, none⟩) (bs0.length + 1) c) (bs0 ++ [⟨e, b, es⟩]) := by
 obtain ⟨⟨ho, hlen, hsz, hA⟩, h1, h2, h3, h4, h5, h6⟩ := h
 refine ⟨cells ++ [[.int .u64 e, .int .u64 b, vl]], by simpa using ho, zCe, hsz, fun i cs x hi hx => ?_⟩
 by_cases hlt : i < bs0.length
 ·rw [Bq hlt] at hx
  have := hA i cs (.inl x) hi zBg
  exact G9.mono this fun b hb => ⟨hb.1.1, Ai hb.1.2 h3, hb.2⟩
 ·have hii : i = bs0.length := by
   have := (List.getElem?_eq_some_iff.1 hx).1
   simp at this
   omega
  subst hii;rw [By zC] at hi
  rw [By (Ak _)] at hx
  simp [h1] at hi
  simp at hx
  subst hi hx;have hv := A6.slice (Ak _) h4
  exact Uq (x := ⟨e, b, es⟩) h5 h6 (LG.mono hv fun b hb => ⟨zC, hb.2, by simp [Value.ownBlock]; omega⟩)
theorem Bld.close {lo : Nat} {TB TE : TypeId} {v : Value} {bs : List Batch} (h : Bld lo TB TE w v bs) : A6 lo G9 lo TB 3 w v bs := by
 rcases h with ⟨rfl, rfl⟩ | ⟨g, c, cells, s, bs0, e, b, es, vl, rfl, rfl, h⟩
 ·exact A6.nil
 ·refine h.close ?_
  obtain ⟨⟨ho, _⟩, _, h2, _⟩ := h
  rcases ho.2 with ⟨h0, _⟩ | ⟨g', cap, cur, h1, hb, _⟩
  ·cases h0
  ·simp at h1
   omega
theorem Kn.start {lo : Nat} {TB TE : TypeId} {g c : Nat} {v : Value} {bs : List Batch} {e b : Int} {cells : List (List Value)} (h : CP lo G9 lo TB 3 w v bs cells) (he : 0 ≤ e ∧ e ≤ 18446744073709551615) (hb : 0 ≤ b ∧ b ≤ 18446744073709551615)
  (hown : w'.ownsRow lo TB 3 (.slice (some ⟨g, 0, none⟩) (bs.length + 1) c) (bs.length + 1) (cells.flatten ++ [.int .u64 e, .int .u64 b, .slice none 0 0])) (hg : w.grownBy w' v.ownBlock)
  (hat : (Value.slice (some ⟨g, 0, none⟩) (bs.length + 1) c).ownBlock = v.ownBlock ∨ (Value.slice (some ⟨g, 0, none⟩) (bs.length + 1) c).ownBlock = some w.heap.size) :
  Kn lo TB TE w' g c cells w'.heap.size bs e b [] (.slice none 0 0) := by
 have h' := (Bn.of h).inl
 have h2 : CP lo rBV lo TB 3 w v (bs.map .inl) cells := h'.to fun b hb => hb
 have h3 := CP.push (v' := .slice (some ⟨g, 0, none⟩) (bs.length + 1) c) (x := (.inr (e, b, .slice none 0 0) : Batch ⊕ (Int × Int × Value))) h2 rfl rfl (by simpa using hown) hg hat hg.size
 have hlt : g < w'.heap.size := by
  rcases hown.2 with ⟨h0, _⟩ | ⟨g', cap, cur, h1, hb, hk, _⟩
  ·cases h0
  ·simp at h1
   rw [h1.1]
   exact (Array.getElem?_eq_some_iff.1 hk).1
 exact ⟨Bn.of h3, by simpa using h.2.1, hlt, Ak _, A6.nil, he, hb⟩
theorem Kn.grow {lo : Nat} {TB TE : TypeId} {g c : Nat} {cells : List (List Value)} {s : Nat} {bs0 : List Batch} {e b : Int} {es es' : List Entry} {vl vl' : Value} (h : Kn lo TB TE w g c cells s bs0 e b es vl)
  (hk : ∀ b, b < s → w'.heap[b]? = w.heap[b]?) (hs : w.heap.size ≤ w'.heap.size) (hl : A6 s Qi s TE 2 w' vl' es') :
  Kn lo TB TE (w'.setCell ⟨g, bs0.length * 3 + 2, none⟩ vl') g c cells s bs0 e b es' vl' := by
 obtain ⟨ho, h1, h2, h3, h4, h5, h6⟩ := h
 have hsame : (w'.setCell ⟨g, bs0.length * 3 + 2, none⟩ vl').heap.size = w'.heap.size := ZT
 have ho' := ho.keep (w' := w') (fun b hb => hk b hb.2) (fun g' hg' => hk g' zBo)
 have h7 := Bn.Ry (x' := (.inr (e, b, vl') : Batch ⊕ (Int × Int × Value))) (j := 2) (u := vl') ho' zAe zC (show _ = _ from rfl)
 refine ⟨by simpa using h7, h1, h2, by rw [hsame]; omega, ?_, h5, h6⟩
 obtain ⟨cs, hc⟩ := hl
 have h8 := (Bn.of hc).keep (w' := w'.setCell ⟨g, bs0.length * 3 + 2, none⟩ vl') (fun b hb => AM _ _ _ _ zN) (fun g' hg' => AM _ _ _ _ (by
  have := (hc.1.lt g' hg').1
  dsimp only; omega))
 exact ⟨cs, h8.to fun b hb => by rw [hsame]; exact hb⟩
theorem Kn.keep {lo : Nat} {TB TE : TypeId} {g c : Nat} {cells : List (List Value)} {s : Nat} {bs0 : List Batch} {e b : Int} {es : List Entry} {vl : Value} (h : Kn lo TB TE w g c cells s bs0 e b es vl) (p : Nat) (hp : p < lo)
  (hk : ∀ b, b < w.heap.size → b ≠ p → w'.heap[b]? = w.heap[b]?) (hs : w.heap.size ≤ w'.heap.size) : Kn lo TB TE w' g c cells s bs0 e b es vl := by
 obtain ⟨ho, h1, h2, h3, h4, h5, h6⟩ := h
 have hlo : lo ≤ g := by
  rcases ho.1.2 with ⟨h0, _⟩ | ⟨g', cap, cur, hv, hb, _⟩
  ·cases h0
  ·simp at hv
   omega
 refine ⟨ho.keep (fun b hb => hk b zC zC) (fun g' hg' => hk g' zBo zBo), h1, h2, zC, ?_, h5, h6⟩
 obtain ⟨cs, hc⟩ := h4
 have h8 := (Bn.of hc).keep (w' := w') (fun b hb => hk b hb.2 zC) (fun g' hg' => hk g' (hc.1.lt g' hg').2 (by have := (hc.1.lt g' hg').1; omega))
 exact ⟨cs, h8.to fun b hb => ⟨hb.1, zC⟩⟩
theorem Kn.place {lo : Nat} {TB TE : TypeId} {g c : Nat} {cells : List (List Value)} {s : Nat} {bs0 : List Batch} {e b : Int} {es : List Entry} {vl : Value} (h : Kn lo TB TE w g c cells s bs0 e b es vl) :
  w.cell? ⟨g, bs0.length * 3 + 2, none⟩ = some vl ∧ w.frozen? ⟨g, bs0.length * 3 + 2, none⟩ = false := by
 obtain ⟨⟨ho, hlen, hsz, hA⟩, h1, _⟩ := h
 rcases ho.2 with ⟨h0, _⟩ | ⟨g', cap, cur, hv, hbg, hg, hn, hc, hcur, hx⟩
 ·cases h0
 ·simp at hv
  obtain ⟨rfl, rfl⟩ := hv
  refine ⟨?_, Blk.free hg _⟩
  rw [Blk.cell hg]
  have hf := Fj 3 (cells ++ [[.int .u64 e, .int .u64 b, vl]]) hsz bs0.length 2 [.int .u64 e, .int .u64 b, vl] vl zB8 rfl
  rw [← hx, CR] at hf
  split at hf
  ·simpa using hf
  ·cases hf
end
open Go.RowKit
def GO (o : Oper) : Oper := { o with op := .move (.const (.bool true)), guard := none }
def Cm : List Oper → List Oper
 | [] => []
 | [o] => [GO o]
 | o :: p :: l => o :: Cm (p :: l)
theorem EB : ∀ l, (Cm l).length = l.length
 | [] => rfl
 | [_] => rfl
 | _ :: p :: l => by simp [Cm, EB (p :: l)]
theorem ER : ∀ (l : List Oper) (i : Nat), (Cm l)[i]? = if i + 1 = l.length then (l[i]?).map GO else l[i]?
 | [], i => by simp [Cm]
 | [o], i => by
  cases i with
  | zero => simp [Cm]
  | succ i => simp [Cm]
 | o :: p :: l, i => by
  cases i with
  | zero => simp [Cm]
  | succ i =>
   have := ER (p :: l) i
   simp only [Cm, List.getElem?_cons_succ, AQ] at *
   rw [this]
   by_cases h : i + 1 = l.length + 1
   ·rw [Am h, Am zC]
   ·rw [An h, An zC]
def TY (md : Region.Mode) (l : List Oper) : Bool :=
 (match l.getLast? with | none => false | some o => o.dst.isNone && o.guard.isNone) && (Region.sinkB md l.toArray (l.length - 1) && Region.chainB md l.toArray (l.length - 1)) &&
  (List.range l.length).all fun i => match l[i]? with | none => true | some o => o.after.all fun e => decide (e.on < i)
section
variable {P : Program} {md : Region.Mode}
theorem IW (l : List Oper) (listed : Array Bool) : Region.ready md (Cm l).toArray listed = Region.ready md l.toArray listed := by
 unfold Region.ready;simp only [List.size_toArray, EB]
 refine List.filter_congr fun i _ => ?_
 simp only [GB, ER]
 by_cases h : i + 1 = l.length
 ·rw [Am h]
  cases l[i]? <;> rfl
 ·rw [An h]
theorem Nm (l : List Oper) (t : Array Value) : yielded (Cm l).toArray t = yielded l.toArray t := by
 funext j
 unfold yielded;simp only [GB, ER]
 by_cases h : j + 1 = l.length
 ·rw [Am h]
  cases l[j]? <;> rfl
 ·rw [An h]
theorem PE {ops : Array Oper} {Q Q' : Exit → Act → World → Prop} {i : Nat} {K : Act → World → Prop} {a : Act} {w : World} (hQ : ∀ e a w, e ≠ .normal → Q' e a w → Q e a w) (h : wpOp P ops Q' i K a w) : wpOp P ops Q i K a w := by
 unfold wpOp at *;split
 ·rename_i ho
  simp only [ho] at h
  exact h
 ·rename_i o ho
  simp only [ho] at h
  split
  ·rename_i hw
   simp only [hw, JG] at h
   have hl : LetsOut Q' → LetsOut Q := fun ⟨a, w, h⟩ => ⟨a, w, hQ _ _ _ zO h⟩
   rcases h with h | ⟨h1, h2⟩
   ·left
    unfold Oper.wp at *;generalize (execOp a.eval o).run P w = r at *
    cases r with
    | ok n w' =>
     cases n <;> simp only [Oper.upon] at h ⊢
     case value u => exact h
     case skip => exact h
     case defer d => exact h
     case enter f args =>
      refine Calls.mono h fun e w'' he => ?_
      cases e with
      | returned u => exact he
      | panicked c => exact hQ _ _ _ zO he
      | outgrown => exact hl he
     case row row args => exact h
    | halt x w' =>
     cases x <;> simp only [Oper.upon] at h ⊢
     case panic u => exact hQ _ _ _ zO h
   ·exact .inr ⟨h1, hl h2⟩
  ·rename_i hw
   simp only [hw] at h
   exact h
theorem RQ {l : List Oper} {Q : Exit → Act → World → Prop} {i : Nat} {K : Act → World → Prop} {a : Act} {w : World} (hi : i + 1 ≠ l.length) (h : wpOp P (Cm l).toArray Q i K a w) : wpOp P l.toArray Q i K a w := by
 unfold wpOp at *;rw [Nm] at h
 simp only [GB, ER, An hi] at h ⊢
 exact h
def O2 (P : Program) (l : List Oper) (o : Oper) (Q : Exit → Act → World → Prop) : Exit → Act → World → Prop
 | .normal, a, w => wpList P l.toArray Q [o] a w
 | e, a, w => Q e a w
theorem O1 {l : List Oper} {o : Oper} {Q : Exit → Act → World → Prop} {e : Exit} {a : Act} {w : World} (he : e ≠ .normal) (h : O2 P l o Q e a w) : Q e a w := by
 cases e <;> first | exact h | exact absurd rfl he
theorem IV {ops : Array Oper} {listed : Array Bool} (hd : ∀ (i : Nat) (o : Oper), ops[i]? = some o → ∀ e ∈ o.after, e.on < i) (hs : listed.size = ops.size) : ∀ (n j : Nat), j < n → j < ops.size → listed.getD j true = false → Region.ready md ops listed ≠ []
 | 0, j, h, _, _ => by omega
 | n + 1, j, h, hj, hl => by
  intro h0;have hr : j ∉ Region.ready md ops listed := by rw [h0]; simp
  apply hr
  rw [mem_ready]
  have ho : ops[j]? = some ops[j] := Array.getElem?_eq_getElem hj
  refine ⟨hl, ops[j], ho, fun e he hb => ?_⟩
  have hlt := hd j _ ho e he
  cases hg : listed.getD e.on false with
  | true => rfl
  | false => exact absurd h0 (IV hd hs n e.on zC zC (getD_in zC hg))
theorem Lf {l : List Oper} {o : Oper} {Q : Exit → Act → World → Prop} (hlast : l[l.length - 1]? = some o) (hpos : 0 < l.length) (hdst : o.dst = none) (hgd : o.guard = none)
  (hs1 : Region.sinkB md l.toArray (l.length - 1) = true) (hc1 : Region.chainB md l.toArray (l.length - 1) = true) (hd : ∀ (i : Nat) (o : Oper), l.toArray[i]? = some o → ∀ e ∈ o.after, e.on < i) :
  ∀ (fuel : Nat) (listed : Array Bool) (a : Act) (w : World), HeadInv md l.toArray (l.length - 1) listed →
   wpAny P md (Cm l).toArray (O2 P l o Q) fuel listed a w → wpAny P md l.toArray Q fuel listed a w
 | 0, listed, a, w, inv, h => by
  have hs : listed.size = l.length := by simpa using inv.size
  have hl := inv.tail (l.length - 1) (Ak _) zJ
  exact absurd (by rw [← IW]; exact h.1) (IV (md := md) hd (by simpa using hs) _ _ (Nat.lt_succ_self _) zJ hl)
 | fuel + 1, listed, a, w, inv, h => by
  have hs : listed.size = l.length := by simpa using inv.size
  have hl := inv.tail (l.length - 1) (Ak _) zJ
  have hne := IV (md := md) hd (by simpa using hs) _ _ (Nat.lt_succ_self _) zJ hl
  refine ⟨fun h0 => absurd h0 hne, fun i hi => ?_⟩
  have h2 := h.2 i (by rw [IW]; exact hi)
  by_cases hin : i + 1 = l.length
  ·
   obtain rfl : i = l.length - 1 := zC
   have hr := mem_ready.1 hi
   have hall : ∀ j, j < l.length → (listed.setIfInBounds (l.length - 1) true).getD j true = true := by
    intro j hj;by_cases hjl : j = l.length - 1
    ·subst hjl; simp [hs]
    ·rw [getD_set_ne true zC]
     cases hg : listed.getD j true with
     | true => rfl
     | false => exact absurd hi (tail_waits hs1 hc1 zJ inv _ j rfl zC hg _ (Ak _))
   have hrd : Region.ready md l.toArray (listed.setIfInBounds (l.length - 1) true) = [] := by
    rw [List.eq_nil_iff_forall_not_mem]
    intro j hj;obtain ⟨h1, o', ho', _⟩ := mem_ready.1 hj
    have hjl : j < l.length := by
     have := (Array.getElem?_eq_some_iff.1 ho').1
     simpa using this
    rw [hall j hjl] at h1
    cases h1
   have hQ : wpList P l.toArray Q [o] a w := by
    unfold wpOp at h2;simp only [GB, ER, Am (show l.length - 1 + 1 = l.length by omega), hlast, Option.map_some] at h2
    have hwant : Region.wanted (GO o) (yielded (Cm l).toArray a.tmps) = true := rfl
    rw [Am hwant] at h2
    rcases h2 with h2 | ⟨h2, _⟩
    ·have h3 : wpAny P md (Cm l).toArray (O2 P l o Q) fuel (listed.setIfInBounds (l.length - 1) true) (a.put (GO o).dst (.bool true)) w := h2
     have h4 : (GO o).dst = none := hdst
     rw [h4] at h3
     cases fuel with
     | zero => exact h3.2
     | succ f => exact h3.1 (by rw [IW]; exact hrd)
    ·exfalso
     simp only [Oper.asks, GO, execOp] at h2
     have h5 := h2.1
     have h6 : noRoomEvent ∈ (#[] : Array Event) := h5
     simp at h6
   unfold wpOp;simp only [GB, hlast]
   have hwant : Region.wanted o (yielded l.toArray a.tmps) = true := by simp [Region.wanted, hgd]
   rw [Am hwant]
   unfold wpList at hQ;rw [Am hwant] at hQ
   refine hQ.imp (fun h => Oper.wp_mono (fun a' w' h' => ?_) h) id
   cases fuel with
   | zero => exact ⟨hrd, h'⟩
   | succ f => exact ⟨fun _ => h', by rw [hrd]; simp⟩
  ·refine PE (fun e a w he h => O1 he h) (RQ hin (wpOp_mono (fun a' w' h' => ?_) h2))
   exact Lf hlast hpos hdst hgd hs1 hc1 hd fuel _ a' w' (inv.set hi (by
    have := (mem_ready.1 hi).2
    obtain ⟨o', ho', _⟩ := this
    have := (Array.getElem?_eq_some_iff.1 ho').1
    simp at this
    omega)) h'
theorem Le {id : Nat} {Q : Exit → Act → World → Prop} {a : Act} {w : World} {l : List Oper} (o : Oper) (hm : P.follows .mixedOrders = true) (ho : l[l.length - 1]? = some o) (hB : TY .any l = true)
  (h : wpAny P .any (Cm l).toArray (O2 P l o Q) (Cm l).toArray.size (Array.replicate (Cm l).toArray.size false) a { w with drawn := w.drawn + 1 }) : (Code.region id l.toArray true).wp P Q a w := by
 have hpos : 0 < l.length := by
  rcases Cz l.length with h | h
  ·rw [AT h] at ho; simp at ho
  ·exact h
 simp only [TY, Ao] at hB
 obtain ⟨⟨h1, h2, h2'⟩, h3⟩ := hB
 rw [List.getLast?_eq_getElem?, ho] at h1
 simp only [Ao, Option.isNone_iff_eq_none] at h1
 have inv0 : HeadInv .any l.toArray (l.length - 1) (Array.replicate l.toArray.size false) :=
  ⟨zO, fun j oj _ hl => (by rw [getD_replicate_false] at hl; cases hl), fun t _ ht => getD_in (by simpa using ht) (getD_replicate_false _ _)⟩
 refine wp_region_any hm (Lf ho hpos h1.1 h1.2 h2 h2' ?_ _ _ a _ inv0 (by simpa [EB] using h))
 intro i o' ho' e he;have hi : i < l.length := by
  have := (Array.getElem?_eq_some_iff.1 ho').1
  simpa using this
 have := List.all_eq_true.1 h3 i (List.mem_range.2 hi)
 simp only [GB] at ho'
 rw [ho'] at this
 have h4 := Array.all_eq_true'.1 this e he
 simpa using h4
theorem DC {id : Nat} {Q : Exit → Act → World → Prop} {a : Act} {w : World} {l : List Oper} (S : World → Prop) (o : Oper) (hm : P.follows .mixedOrders = true) (ho : l[l.length - 1]? = some o) (hB : TY .any l = true)
  (hS : S w.drew) (h : S w.drew → wpAnyH P .any (Cm l).toArray (O2 P l o Q) S l.length (Array.replicate l.length false) a w.drew) : (Code.region id l.toArray true).wp P Q a w :=
 Le o hm ho hB (wpAny_of_held _ _ _ _ (by simpa [EB] using h hS))
end
end Go.Bs
namespace Go.Proofs.YtlbffbkbkajciaaGreat
open Go.RowKit Go.Bs Go.Maps
def GW : Rp Tok := rBy (fun t => (t.lit, t.off, t.len)) (En Ah (En (GA .i64) (GA .i64)))
def KH : Rp (List Tok) := rSl 3 GW
theorem QO {n : Int} (h : -9223372036854775808 ≤ n ∧ n ≤ 9223372036854775807) : (Lit.int .i64 n).wf = true := by
 simp [Lit.wf, IntKind.min, IntKind.max, IntKind.signed, IntKind.bits]; omega
theorem Nq {S : Nat → Prop} {w : World} {x : Tok} {v : Value} (h : Ah.r S w [v] x.lit) (h1 : -9223372036854775808 ≤ x.off ∧ x.off ≤ 9223372036854775807) (h2 : -9223372036854775808 ≤ x.len ∧ x.len ≤ 9223372036854775807) : GW.r S w [v, .int .i64 x.off, .int .i64 x.len] x :=
 ⟨[_], [_, _], rfl, h, [_], [_], rfl, ⟨rfl, QO h1⟩, rfl, QO h2⟩
theorem NN : (Tryz.prog.info? 225).map (fun i => (i.zero, i.size, i.bytes)) = some (some (.agg #[.slice none 0 0, .int .i64 0, .int .i64 0]), 3, 40) := zG
theorem Nx {α : Type} {sz : Nat} {A : Rp α} {S : Nat → Prop} {w : World} {xs : List α} {b off : Nat} {n c k : Nat} (h : (rSl sz A).r S w [.slice (some ⟨b, off, none⟩) n c] xs) (hk : k ≤ xs.length) : (rSl sz A).r S w [.slice (some ⟨b, off + k * sz, none⟩) (n - k) (c - k)] (xs.drop k) := by
 obtain ⟨a', c', e, h1, h2, h3⟩ := h
 simp at e
 obtain ⟨rfl, rfl, rfl⟩ := e
 refine Bh (a := some ⟨b, off + k * sz, none⟩) (c := c - k) zO zJ zC ?_
 rcases h3 with rfl | ⟨b', off', e', hS, hr⟩
 ·exact .inl zO
 ·simp at e'
  obtain ⟨rfl, rfl⟩ := e'
  refine .inr ⟨b, off + k * sz, rfl, hS, fun i x hi => ?_⟩
  rw [List.getElem?_drop] at hi
  obtain ⟨cs, h4, h5, h6⟩ := hr (k + i) x hi
  refine ⟨cs, h4, fun j v hj => ?_, h6⟩
  have := h5 j v hj
  rw [show off + k * sz + i * sz + j = off + (k + i) * sz + j by rw [Nat.add_mul]; omega]
  exact this
def N6 (w : World) (bo lo : Nat) (F : Nat → Prop) (v : Value) (L' : List Tok) (r : Ending) (w' : World) : Prop := r = .returned (.tuple #[]) ∧
 ∃ av' cv' cells', Blk w' bo 214 #[.slice av' L'.length cv'] ∧ Bn (fun q => F q ∨ (w.heap.size ≤ q ∧ q < w'.heap.size)) GW lo 225 3 w' (.slice av' L'.length cv') L' cells' ∧ Tch (fun q => q = bo ∨ v.ownBlock = some q) w w' ∧ ((Value.slice av' L'.length cv').ownBlock = v.ownBlock ∨ ∃ q, (Value.slice av' L'.length cv').ownBlock = some q ∧ w.heap.size ≤ q)
theorem MO (w : World) {bf bo bb lo : Nat} {F : Nat → Prop} {b : List UInt8} {a : Option Addr} {c i to : Nat} {av : Option Addr} {cv : Nat} {L : List Tok} {cells : List (List Value)}
  (hf : Blk w bf 3 #[.int .i64 (i : Int)]) (ho : Blk w bo 214 #[.slice av L.length cv]) (hb : Blk w bb 25 #[.slice a b.length c]) (hl : Ah.r (fun q => q < w.heap.size) w [.slice a b.length c] b)
  (hown : Bn F GW lo 225 3 w (.slice av L.length cv) L cells) (hF : ∀ q, F q → q < w.heap.size) (hFo : ¬ F bo) (hoo : (Value.slice av L.length cv).ownBlock ≠ some bo)
  (hne : bo ≠ bf ∧ bo ≠ bb ∧ (Value.slice av L.length cv).ownBlock ≠ some bf ∧ (Value.slice av L.length cv).ownBlock ≠ some bb) (hto : to ≤ b.length) (hlen : b.length ≤ 1048576) (hL : L.length ≤ 2097152) (hlo : lo ≤ w.heap.size) :
  Calls Tryz.prog 264 #[.int .i64 (to : Int), .pointer (some ⟨bf, 0, none⟩), .pointer (some ⟨bo, 0, none⟩), .pointer (some ⟨bb, 0, none⟩)] w (N6 w bo lo F (.slice av L.length cv) (L ++ Ei b i to)) := by
 have f0 : w.cell? ⟨bf, 0, none⟩ = some (.int .i64 (i : Int)) := hf.cell 0
 by_cases hit : i < to
 ·have hlit : Ei b i to = [⟨(b.drop i).take (to - i), 0, 0⟩] := by unfold Ei; rw [Am hit]
  obtain ⟨ga, oa, hA, hga, _⟩ := CO hl (i := i) zC
  subst hA;obtain ⟨_, _, hlc, hcm⟩ := AS hl
  obtain ⟨i0, hi0, hz0, hz1, hz2⟩ := A8 Dz
  obtain ⟨j0, hj0, hy0, hy1, hy2⟩ := A8 NN
  have o0 : w.cell? ⟨bo, 0, none⟩ = some (.slice av L.length cv) := ho.cell 0
  have b0 : w.cell? ⟨bb, 0, none⟩ = some (.slice (some ⟨ga, oa, none⟩) b.length c) := hb.cell 0
  have of := ho.free 0
  have lf := hf.lt; have lo' := ho.lt; have lb := hb.lt
  have hsub : Hid (Ah.r (fun q => q < w.heap.size) w [.slice (some ⟨ga, oa + i, none⟩) (to - i) (c - i)] ((b.drop i).take (to - i))) := hid (by
   have h1 := Nx hl (k := i) zC
   rw [DA] at h1
   exact GD h1 zJ)
  have hsl' : ((b.drop i).take (to - i)).length = to - i := zJ
  generalize hD : (b.drop i).take (to - i) = D at *
  clear hD;have HLIT := hid hlit; have HSL := hid hsl'
  have hds : Hid (to - i = D.length) := hid hsl'.symm
  have HS := hid (fun (W : World) (hW : Below w.heap.size w W) => A5 (l := D) (lift (w := w) (A := Ah) (by have := hsub.out; rw [hds.out] at this; exact this) hW))
  have HONE := hid (AI D)
  have hsl : ∀ w' : World, (Instr.slice 25 (.slice (some ⟨ga, oa, none⟩) b.length c) (some (.int .i64 (i : Int))) (some (.int .i64 (to : Int))) none).run Tryz.prog w' = .ok (.slice (some ⟨ga, oa + i, none⟩) D.length (c - i)) w' := fun w' => by
   rw [← hds.out]
   have g1 : (0 : Int) ≤ (i : Int) := zC
   have g2 : (i : Int) ≤ (to : Int) := zC
   have g3 : (to : Int) ≤ (c : Int) := zC
   have g4 : ¬ c = i := zC
   go_simp
  have HF := hid hF; have HFO := hid hFo; have HOO := hid hoo; have HOWN := hid hown
  have HHO := hid ho
  have lenD : D.length ≤ 1048576 := zC
  have g1 : (0 : Int) ≤ (i : Int) := zC
  have g2 : (i : Int) ≤ (to : Int) := zC
  have g3 : (to : Int) ≤ (c : Int) := zC
  have g4 : (to : Int) ≤ (b.length : Int) := zC
  have d1 : decide ((i : Int) < (to : Int)) = true := zJ
  have d1' : decide (i < to) = true := zJ
  obtain ⟨ne1, ne2, ne3, ne4⟩ := hne
  clear hF hFo hoo hown ho hb hl hf hlit hsl' hsub hds;go_enter Tryz.func264, Tryz.ntmps264
  go_wp2_with fail;refine DC (fun w' => w'.cell? ⟨bf, 0, none⟩ = some (.int .i64 (i : Int)) ∧ w'.cell? ⟨bo, 0, none⟩ = some (.slice av L.length cv) ∧ w'.cell? ⟨bb, 0, none⟩ = some (.slice (some ⟨ga, oa, none⟩) b.length c)) _ zG rfl zG ⟨f0, o0, b0⟩ (fun hHeld => ?_)
  simp only [Cm, GO]
  refine Ap (i := 0) (oi := _) (v := ?_) rfl zE zE zE (fun _ _ _ h => h) (Or.inl ⟨zT, ?_⟩) zM ?_
  rotate_left
  ·(intro w hSw; (try dsimp only at hSw); go_simp <;> with_reducible rfl)
  (try simp only [Act.put, Aa, Ab, Ac])
  refine Ap (i := 2) (oi := _) (v := ?_) rfl zE zE zE (fun _ _ _ h => h) (Or.inl ⟨zT, ?_⟩) zM ?_
  rotate_left
  ·(intro w hSw; (try dsimp only at hSw); go_simp <;> with_reducible rfl)
  (try simp only [Act.put, Aa, Ab, Ac])
  refine Ap (i := 3) (oi := _) (v := ?_) rfl zE zE zE (fun _ _ _ h => h) (Or.inl ⟨zT, ?_⟩) zM ?_
  rotate_left
  ·(intro w hSw; (try dsimp only at hSw); go_simp <;> with_reducible rfl)
  (try simp only [Act.put, Aa, Ab, Ac])
  refine Ap (i := 4) (oi := _) (v := ?_) rfl zE zE zE (fun _ _ _ h => h) (Or.inl ⟨zT, ?_⟩) zM ?_
  rotate_left
  ·(intro w hSw; (try dsimp only at hSw); go_simp <;> with_reducible rfl)
  (try simp only [Act.put, Aa, Ab, Ac])
  refine Ap (i := 5) (oi := _) (v := ?_) rfl zE zE zE (fun _ _ _ h => h) (Or.inl ⟨zT, ?_⟩) zM ?_
  rotate_left
  ·(intro w hSw; (try dsimp only at hSw); go_simp <;> with_reducible rfl)
  (try simp only [Act.put, Aa, Ab, Ac])
  refine AP (rs := [1]) zE zO ?_
  refine AG (o := _) rfl (fun K hK => ?_) AllReadyH.nil
  go_simp
  refine hK.out _ _ ?_ (fun hHeld => ?_)
  ·((try dsimp only); refine ⟨?_, ?_, ?_⟩ <;> (first | assumption | (go_keep; done)))
  clear hK K
  (try simp only [Act.put, Aa, Ab, Ac])
  refine AP (rs := [6]) zE zO ?_
  refine AG (o := _) rfl (fun K hK => ?_) AllReadyH.nil
  (refine BI zT _ _ _ zT w.heap.size 5 i0 (.int .u8 0) 1 1 As hi0 hz0 hz1 hz2 rfl zP _ 0 [] zT (EI _ zO zT) (some ⟨ga, oa + i, none⟩) D.length (c - i) (byteCells D) zT (HS.out _ zB) HONE.out zK zC zO ?_; intro a5 c5 w5 hown5 hgrow5 hat5; rw [A3] at hown5; have k5 : Below w.heap.size w w5 := Below.grown zB hgrow5 zO (fun g e => zBl); have e0 := (k5.cell (p := ⟨bf, 0, none⟩) lf).trans f0; have e1 := (k5.cell (p := ⟨bo, 0, none⟩) lo').trans o0; have e2 := (k5.cell (p := ⟨bb, 0, none⟩) lb).trans b0; have HK5 := hid k5; have HG5 := hid hgrow5; have HO5 := hid hown5; have HA5 := hid hat5; have hs5 : w.heap.size + 1 ≤ w5.heap.size := (by have := hgrow5.size; simpa using this); clear hown5 hgrow5 hat5 k5)
  refine hK.out _ _ ?_ (fun hHeld => ?_)
  ·((try dsimp only); refine ⟨?_, ?_, ?_⟩ <;> (first | assumption | (go_keep; done)))
  clear hK K
  (try simp only [Act.put, Aa, Ab, Ac])
  refine Ap (i := 7) (oi := _) (v := ?_) rfl zE zE zE (fun _ _ _ h => h) (Or.inl ⟨zT, ?_⟩) zM ?_
  rotate_left
  ·(intro w hSw; (try dsimp only at hSw); go_simp <;> with_reducible rfl)
  (try simp only [Act.put, Aa, Ab, Ac])
  refine AP (rs := [8]) zE zO ?_
  refine AG (o := _) rfl (fun K hK => ?_) AllReadyH.nil
  go_simp
  refine hK.out _ _ ?_ (fun hHeld => ?_)
  ·((try dsimp only); refine ⟨?_, ?_, ?_⟩ <;> (first | assumption | (go_keep; done)))
  clear hK K
  (try simp only [Act.put, Aa, Ab, Ac])
  refine AP (rs := [9]) zE zO ?_
  refine AG (o := _) rfl (fun K hK => ?_) AllReadyH.nil
  (refine BI zT _ _ _ zT lo 225 j0 (.agg #[.slice none 0 0, .int .i64 0, .int .i64 0]) 3 40 Tryz.underlying214 hj0 hy0 hy1 hy2 rfl zP (.slice av L.length cv) L.length cells.flatten zT (AD (AD HOWN.out.1 HK5.out) zB) (some ⟨w5.heap.size, 0, none⟩) 1 1 [.slice a5 D.length c5, .int .i64 0, .int .i64 0] zT (Bx w5 225 _ zT zT rfl) (by intro u hu; simp at hu; rcases hu with rfl | rfl | rfl <;> rfl) zK zC zJ ?_; intro a8 c8 w8 hown8 hgrow8 hat8; have G := fun b' (hb : b' < w.heap.size) (hne : (Value.slice av L.length cv).ownBlock ≠ some b') => (hgrow8.block b' zJ (fun e => hne e.symm)).trans ((Br w5 _ b' zC).trans (HK5.out.block b' hb)); have m1 := (Bz (a := ⟨bo, 0, none⟩) (G bo lo' HOO.out)).trans o0; have m2 := (Cy (a := ⟨bo, 0, none⟩) (G bo lo' HOO.out)).trans of; have m4 := (Bz (a := ⟨bf, 0, none⟩) (G bf lf ne3)).trans f0; have m5 := (Bz (a := ⟨bb, 0, none⟩) (G bb lb ne4)).trans b0; have m3 : bo < w8.heap.size := Ai lo' (A4 zJ hgrow8.size); have HG8 := hid hgrow8; have HO8 := hid hown8; have HA8 := hid hat8; have HGG := hid G; clear hgrow8 hown8 hat8 G)
  refine hK.out _ _ ?_ (fun hHeld => ?_)
  ·((try dsimp only); refine ⟨?_, ?_, ?_⟩ <;> (first | assumption | (go_keep; done)))
  clear hK K
  (try simp only [Act.put, Aa, Ab, Ac])
  refine Ap (i := 10) (oi := _) (v := ?_) rfl zE zE zE (fun _ _ _ h => h) (Or.inl ⟨zT, ?_⟩) zM ?_
  rotate_left
  ·(intro w hSw; (try dsimp only at hSw); go_simp <;> with_reducible rfl)
  (try simp only [Act.put, Aa, Ab, Ac])
  refine CG zG ?_ _
  show wpList _ _ _ _ _ _
  have hA := B9 rfl HO5.out
  have keepA : ∀ q, q < w5.heap.size → (w5.alloc (.cells #[.slice a5 D.length c5, .int .i64 0, .int .i64 0] 225)).heap[q]? = w5.heap[q]? := fun q hq => Br w5 _ q hq
  have OF2 := (HOWN.out.keep (w' := w5.alloc (.cells #[.slice a5 D.length c5, .int .i64 0, .int .i64 0] 225)) (fun q hq => (keepA q (by have := HF.out q hq; omega)).trans (HK5.out.block q (HF.out q hq))) (fun q hq => by
   have h1 := (HOWN.out.1.lt q hq).2
   exact (keepA q zC).trans (HK5.out.block q h1))).mono (F' := fun q => F q ∨ (w.heap.size ≤ q ∧ q < w5.heap.size)) (fun q h => .inl h)
  have hx : GW.r (fun q => (F q ∨ (w.heap.size ≤ q ∧ q < w5.heap.size)) ∧ (Value.slice av L.length cv).ownBlock ≠ some q) (w5.alloc (.cells #[.slice a5 D.length c5, .int .i64 0, .int .i64 0] 225)) [.slice a5 D.length c5, .int .i64 0, .int .i64 0] ⟨D, 0, 0⟩ :=
   Nq (x := ⟨D, 0, 0⟩) (Ah.mono (Ah.keep hA fun q hq => keepA q hq.2) fun q hq => ⟨.inr hq, fun e => by have := (HOWN.out.1.lt q e).2; omega⟩) zO zO
  have OPU := Bn.push OF2 (fun q hq => hq.elim (fun h => by have := HF.out q h; simp; omega) fun h => zJ) rfl hx HO8.out HG8.out HA8.out
  have hs8 := HG8.out.size
  have hoo' : (Value.slice a8 (L.length + 1) c8).ownBlock ≠ some bo := fun e => by
   rcases HA8.out with h | h
   ·rw [h] at e; exact HOO.out e
   ·rw [h] at e; simp at e; omega
  have hsz : (w8.setCell ⟨bo, 0, none⟩ (.slice a8 (L.length + 1) c8)).heap.size = w8.heap.size := ZT
  have OP9 := (OPU.keep (w' := w8.setCell ⟨bo, 0, none⟩ (.slice a8 (L.length + 1) c8)) (fun q hq => AM _ _ _ _ (fun e => by
   subst e;rcases hq with h | h
   ·exact HFO.out h
   ·omega)) (fun q hq => AM _ _ _ _ (fun e => hoo' (by rw [hq]; exact D8 some e)))).mono (F' := fun q => F q ∨ (w.heap.size ≤ q ∧ q < (w8.setCell ⟨bo, 0, none⟩ (.slice a8 (L.length + 1) c8)).heap.size)) (fun q hq => by
    rw [hsz]
    rcases hq with h | h
    ·exact .inl h
    ·simp at hs8; exact .inr ⟨h.1, zC⟩)
  have hB8 : Blk w8 bo 214 #[.slice av L.length cv] := (HGG.out bo lo' HOO.out).trans HHO.out
  have htch : Tch (fun q => q = bo ∨ (Value.slice av L.length cv).ownBlock = some q) w (w8.setCell ⟨bo, 0, none⟩ (.slice a8 (L.length + 1) c8)) :=
   Tch.setCell ⟨HG8.out.os.trans HK5.out.os, HG8.out.tape.trans HK5.out.tape, HG8.out.output.trans HK5.out.output, by simp at hs8; omega, fun q hq hf => HGG.out q hq (fun e => hf (.inr e))⟩ (fun _ => .inl rfl) _
  have hst : N6 w bo lo F (.slice av L.length cv) (L ++ Ei b i to) (.returned (.tuple #[])) (w8.setCell ⟨bo, 0, none⟩ (.slice a8 (L.length + 1) c8)) := by
   rw [HLIT.out]
   have hll : (L ++ [(⟨D, 0, 0⟩ : Tok)]).length = L.length + 1 := zO
   refine ⟨rfl, a8, c8, cells ++ [[.slice a5 D.length c5, .int .i64 0, .int .i64 0]], ?_, ?_, htch, ?_⟩
   ·rw [hll]; exact hB8.set 0 _
   ·rw [hll]; exact OP9
   ·rw [hll]
    rcases HA8.out with h | h
    ·exact .inl h
    ·exact .inr ⟨_, h, zJ⟩
  have HST := hid hst
  clear hst htch OP9 OPU OF2 hx keepA hA hoo' hsz hB8;go_wp2_with fail;refine Al (Aw rfl _ _ _) rfl ?_
  exact HST.out
 ·have hlit : Ei b i to = [] := by unfold Ei; rw [An hit]
  have d1 : decide ((i : Int) < (to : Int)) = false := zJ
  have d1' : decide (i < to) = false := zJ
  have hst : N6 w bo lo F (.slice av L.length cv) (L ++ Ei b i to) (.returned (.tuple #[])) w := by
   rw [hlit, Gy]
   exact ⟨rfl, av, cv, cells, ho, hown.mono fun q h => .inl h, Tch.refl _ _, .inl rfl⟩
  have HST := hid hst
  clear hst hlit hown ho hb hl hf hit;go_enter Tryz.func264, Tryz.ntmps264
  go_wp2;refine Al (Aw rfl _ _ _) rfl ?_
  exact HST.out
structure Rs where
 p : Nat
 k : Int
 f : Int
def Rs.fail (s : Rs) (c at_ : Int) : Rs := if s.k = 0 then ⟨s.p, c, at_⟩ else s
def Rs.skip (L : Nat) (s : Rs) (n : Int) : Bool × Rs :=
 if s.k = 0 then (if n < 0 then (false, ⟨s.p, 17, s.p⟩) else if (L : Int) - s.p < n then (false, ⟨s.p, 1, L⟩) else (true, ⟨s.p + n.toNat, 0, 0⟩)) else (false, s)
def Rs.take (B : List UInt8) (s : Rs) (n : Int) : Rs × List UInt8 := ((s.skip B.length n).2, if (s.skip B.length n).1 then (B.drop s.p).take n.toNat else [])
def Rs.byte (B : List UInt8) (s : Rs) : Rs × UInt8 := ((s.skip B.length 1).2, if (s.skip B.length 1).1 then B.getD s.p 0 else 0)
structure Rs.ok (s : Rs) (L : Nat) : Prop where
 le : s.p ≤ L
 zero : s.k = 0 → s.f = 0
theorem Rs.FZ {s : Rs} {L : Nat} (h : s.ok L) {c at_ : Int} (hc : c ≠ 0) : (s.fail c at_).ok L := by
 unfold Rs.fail; split
 ·exact ⟨h.le, fun e => absurd e hc⟩
 ·exact h
theorem Rs.Rw {s : Rs} {L : Nat} (h : s.ok L) (n : Int) : (s.skip L n).2.ok L := by
 have := h.le
 unfold Rs.skip; split
 ·split
  ·exact ⟨h.le, fun e => by simp at e⟩
  ·split
   ·exact ⟨h.le, fun e => by simp at e⟩
   ·exact ⟨zN, fun _ => rfl⟩
 ·exact h
theorem Rs.Ti {s : Rs} {L : Nat} (h : s.ok L) (n : Int) : s.p ≤ (s.skip L n).2.p := by
 unfold Rs.skip; split
 ·split
  ·exact Ak _
  ·split
   ·exact Ak _
   ·dsimp only; omega
 ·exact Ak _
theorem Rs.Nt {s : Rs} {B : List UInt8} (h : s.ok B.length) (n : Int) : (s.take B n).1.ok B.length := s.Rw h n
theorem Rs.RK {s : Rs} {B : List UInt8} (h : s.ok B.length) : (s.byte B).1.ok B.length := s.Rw h 1
structure AZ (w : World) (g : Nat) (B : List UInt8) (a : Option Addr) (s : Rs) : Prop where
 blk : Blk w g 117 #[.slice a B.length B.length, .int .i64 (s.p : Int), .int .i64 s.k, .int .i64 s.f]
 dat : Ah.r (fun q => q < w.heap.size ∧ q ≠ g) w [.slice a B.length B.length] B
 ok : s.ok B.length
def AE (w : World) (g : Nat) (B : List UInt8) (a : Option Addr) (s' : Rs) (w' : World) : Prop := AZ w' g B a s' ∧ Tch (· = g) w w'
section
variable {w w1 w2 : World} {g : Nat} {B : List UInt8} {a : Option Addr} {s s' : Rs}
theorem AZ.later (h : AZ w g B a s) (hb : Below w.heap.size w w1) : AZ w1 g B a s :=
 ⟨h.blk.later hb, Ah.mono (Ah.keep h.dat fun q hq => hb.block q hq.1) fun q hq => ⟨Ai hq.1 hb.size, hq.2⟩, h.ok⟩
theorem AZ.len (h : AZ w g B a s) : B.length ≤ 9223372036854775807 := (AS h.dat).2.1
theorem AE.later (h : AZ w g B a s) (hb : Below w.heap.size w w1) : AE w g B a s w1 := ⟨h.later hb, Tch.Cl hb⟩
theorem AE.refl (h : AZ w g B a s) : AE w g B a s w := ⟨h, Tch.refl _ _⟩
theorem AE.trans (h : Tch (· = g) w w1) (k : AE w1 g B a s' w2) : AE w g B a s' w2 := ⟨k.1, h.trans k.2 fun _ _ h => h⟩
theorem AE.then (h : AE w g B a s w1) (hb : Below w1.heap.size w1 w2) : AE w g B a s w2 := ⟨h.1.later hb, h.2.trans (Tch.Cl (F := (· = g)) hb) fun _ _ h => h⟩
theorem AE.size (h : AE w g B a s w1) : w.heap.size ≤ w1.heap.size := h.2.size
theorem AE.below {b : Nat} (h : AE w g B a s w1) (hb : b ≤ w.heap.size) (hg : b ≤ g) : Below b w w1 := h.2.Cj hb fun q _ e => e ▸ hg
end
theorem Co {S : Nat → Prop} {w : World} {a : Option Addr} {m c : Nat} {l : List UInt8} (hl : l = []) (hm : m = 0) (hc : c ≤ 9223372036854775807) : Ah.r S w [.slice a m c] l := by
 subst hl hm;exact Bh (xs := []) rfl (Aj _) hc (.inl rfl)
theorem Nb {S : Nat → Prop} {w : World} {a : Option Addr} {B : List UInt8} {c : Nat} (h : Ah.r S w [.slice a B.length c] B) {lo hi : Nat} (h1 : lo ≤ hi) (h2 : hi ≤ B.length) :
  ∃ A' c', (∀ w' : World, (Instr.slice 25 (.slice a B.length c) (some (.int .i64 (lo : Int))) (some (.int .i64 (hi : Int))) none).run Tryz.prog w' = .ok (.slice A' (hi - lo) c') w') ∧ Ah.r S w [.slice A' (hi - lo) c'] ((B.drop lo).take (hi - lo)) := by
 obtain ⟨_, hm, hc, hcm⟩ := AS h
 have g1 : (0 : Int) ≤ (lo : Int) := zC
 have g2 : (lo : Int) ≤ (hi : Int) := zC
 have g3 : (hi : Int) ≤ (c : Int) := zC
 rcases Bd lo hi with hlt | hge
 ·obtain ⟨ga, oa, hA, hga, _⟩ := CO h (i := lo) zC
  subst hA;have hd := Nx h (k := lo) zC
  rw [DA] at hd
  have hsub := GD hd (k := hi - lo) zJ
  refine ⟨some ⟨ga, oa + lo, none⟩, c - lo, fun w' => ?_, hsub⟩
  have g4 : ¬ c = lo := zC
  clear h hd hsub;go_simp
 ·obtain rfl : lo = hi := by omega
  by_cases g4 : c = lo
  ·refine ⟨a, c - lo, fun w' => ?_, Co zO zC zC⟩
   clear h;subst g4;go_simp
  ·refine ⟨a.map (·.add (lo * 1)), c - lo, fun w' => ?_, Co zO zC zC⟩
   clear h;go_simp
theorem VI {S : Nat → Prop} {w : World} {a : Option Addr} {B : List UInt8} {c : Nat} (h : Ah.r S w [.slice a B.length c] B) {lo : Nat} (h1 : lo ≤ B.length) :
  ∃ A' c', (∀ w' : World, (Instr.slice 25 (.slice a B.length c) (some (.int .i64 (lo : Int))) none none).run Tryz.prog w' = .ok (.slice A' (B.length - lo) c') w') ∧ Ah.r S w [.slice A' (B.length - lo) c'] (B.drop lo) := by
 obtain ⟨_, hm, hc, hcm⟩ := AS h
 have g1 : (0 : Int) ≤ (lo : Int) := zC
 have g2 : (lo : Int) ≤ (B.length : Int) := zC
 rcases Bd lo B.length with hlt | hge
 ·obtain ⟨ga, oa, hA, hga, _⟩ := CO h (i := lo) zC
  subst hA;have hd := Nx h (k := lo) zC
  rw [DA] at hd
  refine ⟨some ⟨ga, oa + lo, none⟩, c - lo, fun w' => ?_, hd⟩
  have g4 : ¬ c = lo := zC
  clear h hd;go_simp
 ·obtain rfl : lo = B.length := by omega
  by_cases g4 : c = B.length
  ·refine ⟨a, c - B.length, fun w' => ?_, Co zO zC zC⟩
   clear h;subst g4;go_simp
  ·refine ⟨a.map (·.add (B.length * 1)), c - B.length, fun w' => ?_, Co zO zC zC⟩
   clear h;go_simp
theorem C7 (w : World) (k f : Int) : Calls Tryz.prog 131 #[.agg #[.int .i64 k, .int .i64 f]] w fun r w' => r = .returned (.bool (decide (k = 0))) ∧ Below w.heap.size w w' := by
 go_enter Tryz.func131, Tryz.ntmps131
 go_wp2;go_ret;exact ⟨zAz, zB⟩
theorem JA (w : World) (k f : Int) (hk : k ≠ 0) : Calls Tryz.prog 130 #[.int .i64 k, .int .i64 f] w fun r w' => r = .returned (.agg #[.int .i64 k, .int .i64 f]) ∧ Below w.heap.size w w' := by
 have d1 : (k == (0 : Int)) = false := by simp [hk]
 go_enter Tryz.func130, Tryz.ntmps130
 go_wp2;refine Al (v := .agg #[.int .i64 k, .int .i64 f]) (by simp [results, Tryz.results130, go_sem]) rfl ⟨rfl, zB⟩
theorem Qg (w : World) (B : List UInt8) (a : Option Addr) (n c : Nat) (hl : Ah.r (· < w.heap.size) w [.slice a n c] B) :
  Calls Tryz.prog 38 #[.slice a n c] w fun r w' => r = .returned (.pointer (some ⟨w.heap.size, 0, none⟩)) ∧ AZ w' w.heap.size B a ⟨0, 0, 0⟩ ∧ Below w.heap.size w w' := by
 obtain ⟨rfl, hm, hc, hcm⟩ := AS hl
 have hD : Ah.r (fun q => q < w.heap.size) w [.slice a B.length B.length] B := by
  obtain ⟨a', c', e, h1, h2, h3⟩ := hl
  simp at e
  obtain ⟨rfl, rfl⟩ := e
  exact Bh rfl (Ak _) zBw h3
 have HD := hid hD
 have g1 : (B.length : Int) ≤ (c : Int) := zC
 clear hl hD;go_enter Tryz.func38, Tryz.ntmps38
 go_wp2;go_ret;refine ⟨rfl, ⟨zD, ?_, ⟨Aj _, fun _ => rfl⟩⟩, zB⟩
 exact Ah.mono (Ah.keep HD.out fun q hq => Br _ _ q hq) fun q hq => ⟨zJ, zC⟩
theorem AH (w : World) {g : Nat} {B : List UInt8} {a : Option Addr} {s : Rs} (h : AZ w g B a s) : Calls Tryz.prog 44 #[.pointer (some ⟨g, 0, none⟩)] w fun r w' => r = .returned (.bool (decide (s.k = 0))) ∧ Below w.heap.size w w' := by
 have c2 : w.cell? ⟨g, 2, none⟩ = some (.int .i64 s.k) := h.blk.cell 2
 have c3 : w.cell? ⟨g, 3, none⟩ = some (.int .i64 s.f) := h.blk.cell 3
 clear h;go_enter Tryz.func44, Tryz.ntmps44
 go_wp2_with fail;refine (C7 w s.k s.f).mono ?_
 rintro r w1 ⟨rfl, hb⟩;go_wp2;go_ret;exact ⟨rfl, hb⟩
theorem BB (w : World) {g : Nat} {B : List UInt8} {a : Option Addr} {s : Rs} (h : AZ w g B a s) (k f : Int) (hk : k ≠ 0) : Calls Tryz.prog 180 #[.pointer (some ⟨g, 0, none⟩), .int .i64 k, .int .i64 f] w fun r w' => r = .returned (.tuple #[]) ∧ AE w g B a (s.fail k f) w' := by
 have HG := hid (AH w h)
 have HH := hid h
 by_cases h0 : s.k = 0
 ·have e : s.fail k f = ⟨s.p, k, f⟩ := by unfold Rs.fail; rw [Am h0]
  have hr : decide (s.k = 0) = true := Ae h0
  rw [hr] at HG
  rw [e]
  clear h h0 hr e;go_enter Tryz.func180, Tryz.ntmps180
  go_wp2_with fail;refine HG.out.mono ?_
  rintro r w1 ⟨rfl, hb⟩;go_wp2_with fail;refine (JA w1 k f hk).mono ?_
  rintro r w2 ⟨rfl, hb2⟩;have hb12 := Af hb2 hb
  have h2 := HH.out.later hb12
  have f2 := h2.blk.free 2
  have f3 := h2.blk.free 3
  have c2 := h2.blk.cell 2
  have c3 := h2.blk.cell 3
  have lt := h2.blk.lt
  simp at c2 c3
  have H2 := hid h2
  have hst : AE w2 g B a ⟨s.p, k, f⟩ ((w2.setCell ⟨g, 2, none⟩ (.int .i64 k)).setCell ⟨g, 3, none⟩ (.int .i64 f)) := by
   refine ⟨⟨(h2.blk.set 2 _).set 3 _, ?_, h2.ok.le, fun e => absurd e hk⟩, Tch.setCell (F := (· = g)) (Tch.setCell (F := (· = g)) (Tch.refl _ _) (fun _ => rfl) _) (fun _ => rfl) _⟩
   refine Ah.mono (Ah.keep h2.dat fun q hq => ?_) fun q hq => ⟨by simp [World.setCell]; exact hq.1, hq.2⟩
   rw [AM _ _ _ _ (fun e => hq.2 e), AM _ _ _ _ (fun e => hq.2 e)]
  have HST := hid (AE.trans (Tch.Cl (F := (· = g)) hb12) hst)
  clear h2 hst;go_wp2;go_end0
  exact ⟨rfl, HST.out⟩
 ·have e : s.fail k f = s := by unfold Rs.fail; rw [An h0]
  have hr : decide (s.k = 0) = false := Ad h0
  rw [hr] at HG
  rw [e]
  clear h h0 hr e;go_enter Tryz.func180, Tryz.ntmps180
  go_wp2_with fail;refine HG.out.mono ?_
  rintro r w1 ⟨rfl, hb⟩;go_wp2;go_end0
  exact ⟨rfl, AE.later HH.out hb⟩
theorem Ig (w : World) {g : Nat} {B : List UInt8} {a : Option Addr} {s : Rs} (h : AZ w g B a s) : Calls Tryz.prog 42 #[.pointer (some ⟨g, 0, none⟩)] w fun r w' => r = .returned (.agg #[.int .i64 s.k, .int .i64 s.f]) ∧ Below w.heap.size w w' := by
 have c2 : w.cell? ⟨g, 2, none⟩ = some (.int .i64 s.k) := h.blk.cell 2
 have c3 : w.cell? ⟨g, 3, none⟩ = some (.int .i64 s.f) := h.blk.cell 3
 have lt := h.blk.lt
 clear h;go_enter Tryz.func42, Tryz.ntmps42
 go_wp2;refine Al (v := .agg #[.int .i64 s.k, .int .i64 s.f]) (by simp [results, Tryz.results42, go_sem]) rfl ⟨rfl, zB⟩
theorem Cc (w : World) {g : Nat} {B : List UInt8} {a : Option Addr} {s : Rs} (h : AZ w g B a s) : Calls Tryz.prog 43 #[.pointer (some ⟨g, 0, none⟩)] w fun r w' => r = .returned (.int .i64 (s.p : Int)) ∧ w = w' := by
 have c1 : w.cell? ⟨g, 1, none⟩ = some (.int .i64 (s.p : Int)) := h.blk.cell 1
 clear h;go_enter Tryz.func43, Tryz.ntmps43
 go_wp2;go_ret;exact ⟨rfl, rfl⟩
theorem K6 (w : World) {g : Nat} {B : List UInt8} {a : Option Addr} {s : Rs} (h : AZ w g B a s) : Calls Tryz.prog 244 #[.pointer (some ⟨g, 0, none⟩)] w fun r w' => r = .returned (.int .i64 ((B.length : Int) - (s.p : Int))) ∧ Below w.heap.size w w' := by
 have C0 := fun s : A1 w => s.cell (h.blk.cell 0)
 have C1 := fun s : A1 w => s.cell (h.blk.cell 1)
 simp at C0 C1
 have hle := h.ok.le
 have hle2 := h.len
 clear h;go_enter Tryz.func244, Tryz.ntmps244
 go_wp2_with fail;refine Ax zG zG ?_
 repeat (go_big_quiet_step (fail))
 refine AL ?_
 rintro W5 ⟨⟨W5', hb5⟩, rfl⟩;go_wp2;go_ret;exact ⟨zAz, hb5⟩
theorem Rz (w : World) {g : Nat} {B : List UInt8} {a : Option Addr} {s : Rs} (h : AZ w g B a s) (n : Int) (hn : n ≤ 9223372036854775807) : Calls Tryz.prog 233 #[.pointer (some ⟨g, 0, none⟩), .int .i64 n] w fun r w' => r = .returned (.bool (s.skip B.length n).1) ∧ AE w g B a (s.skip B.length n).2 w' := by
 have HG := hid (AH w h)
 have HH := hid h
 have hle := h.ok.le
 have hle2 := h.len
 by_cases h0 : s.k = 0
 ·have hr : decide (s.k = 0) = true := Ae h0
  rw [hr] at HG
  by_cases h1 : n < 0
  ·have e : s.skip B.length n = (false, ⟨s.p, 17, s.p⟩) := by unfold Rs.skip; rw [Am h0, Am h1]
   have ef : s.fail 17 s.p = ⟨s.p, 17, s.p⟩ := by unfold Rs.fail; rw [Am h0]
   have d1 : decide (n < (0 : Int)) = true := Ae h1
   rw [e]
   dsimp only;rw [← ef]
   clear h h0 hr e ef;go_enter Tryz.func233, Tryz.ntmps233
   go_wp2_with fail;refine HG.out.mono ?_
   rintro r w1 ⟨rfl, hb⟩;have hh1 := HH.out.later hb
   have c1 := hh1.blk.cell 1
   simp at c1
   have HF := hid (BB w1 hh1 17 s.p zC)
   clear hh1;go_wp2_with fail;refine HF.out.mono ?_
   rintro r w2 ⟨rfl, hst⟩;have HST := hid (AE.trans (Tch.Cl (F := (· = g)) hb) hst)
   clear hst;go_wp2;go_ret;exact ⟨rfl, HST.out⟩
  ·have d1 : decide (n < (0 : Int)) = false := Ad h1
   by_cases h2 : (B.length : Int) - s.p < n
   ·have e : s.skip B.length n = (false, ⟨s.p, 1, B.length⟩) := by unfold Rs.skip; rw [Am h0, An h1, Am h2]
    have ef : s.fail 1 B.length = ⟨s.p, 1, B.length⟩ := by unfold Rs.fail; rw [Am h0]
    have d2 : decide ((B.length : Int) - (s.p : Int) < n) = true := Ae h2
    rw [e]
    dsimp only;rw [← ef]
    clear h h0 hr e ef;go_enter Tryz.func233, Tryz.ntmps233
    go_wp2_with fail;refine HG.out.mono ?_
    rintro r w1 ⟨rfl, hb⟩;have hh1 := HH.out.later hb
    have HL := hid (K6 w1 hh1)
    go_wp2_with fail;refine HL.out.mono ?_
    rintro r w2 ⟨rfl, hb2⟩;have hb12 := Af hb2 hb
    have hh2 := HH.out.later hb12
    have c0 := hh2.blk.cell 0
    simp at c0
    have HF := hid (BB w2 hh2 1 B.length zC)
    clear hh1 hh2;go_wp2_with fail;refine HF.out.mono ?_
    rintro r w3 ⟨rfl, hst⟩;have HST := hid (AE.trans (Tch.Cl (F := (· = g)) hb12) hst)
    clear hst;go_wp2;go_ret;exact ⟨rfl, HST.out⟩
   ·have e : s.skip B.length n = (true, ⟨s.p + n.toNat, 0, 0⟩) := by unfold Rs.skip; rw [Am h0, An h1, An h2]
    have d2 : decide ((B.length : Int) - (s.p : Int) < n) = false := Ad h2
    have hz := h.ok.zero h0
    rw [e]
    obtain ⟨m, rfl⟩ : ∃ m : Nat, n = m := ⟨n.toNat, zC⟩
    have e1 : ((m : Int)).toNat = m := zC
    rw [e1]
    have hle3 : s.p + m ≤ B.length := zC
    have HZ := hid hz; have H0 := hid h0
    clear h h0 hr e e1 hz;go_enter Tryz.func233, Tryz.ntmps233
    go_wp2_with fail;refine HG.out.mono ?_
    rintro r w1 ⟨rfl, hb⟩;have hh1 := HH.out.later hb
    have HL := hid (K6 w1 hh1)
    go_wp2_with fail;refine HL.out.mono ?_
    rintro r w2 ⟨rfl, hb2⟩;have hb12 := Af hb2 hb
    have hh2 := HH.out.later hb12
    have c1 := hh2.blk.cell 1
    have f1 := hh2.blk.free 1
    have lt := hh2.blk.lt
    simp at c1
    have hst : AE w2 g B a ⟨s.p + m, 0, 0⟩ (w2.setCell ⟨g, 1, none⟩ (.int .i64 ((s.p : Int) + (m : Int)))) := by
     refine ⟨⟨?_, ?_, hle3, fun _ => rfl⟩, Tch.setCell (F := (· = g)) (Tch.refl _ _) (fun _ => rfl) _⟩
     ·have := hh2.blk.set 1 (.int .i64 ((s.p : Int) + (m : Int)))
      rw [H0.out, HZ.out] at this
      simpa using this
     ·refine Ah.mono (Ah.keep hh2.dat fun q hq => ?_) fun q hq => ⟨by simp [World.setCell]; exact hq.1, hq.2⟩
      rw [AM _ _ _ _ (fun e => hq.2 e)]
    have HST := hid (AE.trans (Tch.Cl (F := (· = g)) hb12) hst)
    clear hh1 hh2 hst;go_wp2;go_ret;exact ⟨rfl, HST.out⟩
 ·have e : s.skip B.length n = (false, s) := by unfold Rs.skip; rw [An h0]
  have hr : decide (s.k = 0) = false := Ad h0
  rw [hr] at HG
  rw [e]
  clear h h0 hr e;go_enter Tryz.func233, Tryz.ntmps233
  go_wp2_with fail;refine HG.out.mono ?_
  rintro r w1 ⟨rfl, hb⟩;go_wp2;go_ret;exact ⟨rfl, AE.later HH.out hb⟩
theorem Rs.GU {s : Rs} {L : Nat} {n : Int} (h : (s.skip L n).1 = true) : s.k = 0 ∧ 0 ≤ n ∧ n ≤ (L : Int) - s.p ∧ (s.skip L n).2 = ⟨s.p + n.toNat, 0, 0⟩ := by
 unfold Rs.skip at *;split at h
 ·rename_i h0
  split at h
  ·simp at h
  ·split at h
   ·simp at h
   ·rename_i h1 h2
    exact ⟨h0, zC, zC, by rw [Am h0, An h1, An h2]⟩
 ·simp at h
theorem Rs.Lt {s : Rs} {L : Nat} {n : Int} (h : (s.skip L n).1 = false) : (s.skip L n).2.k ≠ 0 ∧ (s.skip L n).2.p = s.p := by
 unfold Rs.skip at *;split at h
 ·rename_i h0
  split at h
  ·rename_i h1
   rw [Am h0, Am h1]; simp
  ·rename_i h1
   split at h
   ·rename_i h2
    rw [Am h0, An h1, Am h2]; simp
   ·simp at h
 ·rename_i h0
  rw [An h0]; exact ⟨h0, rfl⟩
theorem K7 (w : World) {g : Nat} {B : List UInt8} {a : Option Addr} {s : Rs} (h : AZ w g B a s) : Calls Tryz.prog 188 #[.pointer (some ⟨g, 0, none⟩)] w fun r w' => r = .returned (.int .u8 ((s.byte B).2.toNat : Int)) ∧ AE w g B a (s.byte B).1 w' := by
 have HS := hid (Rz w h 1 zC)
 have hle2 := h.len
 unfold Rs.byte;cases hk : (s.skip B.length 1).1
 ·rw [hk] at HS
  generalize (s.skip B.length 1).2 = s1 at *
  clear h hk;go_enter Tryz.func188, Tryz.ntmps188
  go_wp2_with fail;refine HS.out.mono ?_
  rintro r w1 ⟨rfl, hst⟩;have HST := hid hst
  clear hst;go_wp2;go_ret;exact ⟨rfl, HST.out⟩
 ·obtain ⟨h0, _, h2, h3⟩ := Rs.GU hk
  rw [hk, h3] at HS
  rw [h3]
  have hp : s.p < B.length := zC
  have hbd : B.getD s.p 0 = B[s.p] := by simp [hp]
  simp only [JG]
  rw [hbd]
  generalize hx : B[s.p] = x
  have HX := hid hx
  rw [show s.p + (1 : Int).toNat = s.p + 1 by omega] at *
  clear h hk h0 h2 h3 hbd hx;go_enter Tryz.func188, Tryz.ntmps188
  go_wp2_with fail;refine HS.out.mono ?_
  rintro r w1 ⟨rfl, hst⟩;obtain ⟨ga, oa, hA, hga, hc⟩ := CO hst.1.dat hp
  rw [HX.out] at hc
  subst hA;have c1 := hst.1.blk.cell 1
  simp at c1
  have C0 := fun s : A1 w1 => s.cell (hst.1.blk.cell 0)
  have C1 := fun s : A1 w1 => s.cell c1
  have CB := fun s : A1 w1 => s.cell hc
  simp at C0
  have HST := hid hst
  clear hst hc c1;have i1 : (s.p : Int) < (B.length : Int) := zC
  have i2 : (0 : Int) ≤ (s.p : Int) := zC
  have hb1 : (s.p : Int) ≤ 9223372036854775807 := zC
  go_wp2_with fail;have i3 : wrap64 (s.p : Int) = s.p := by simp only [wrap64]; omega
  refine Ax zG zG ?_
  repeat (go_big_quiet_step (fail))
  refine AL ?_
  clear i3;rintro W5 ⟨⟨W5', hb5⟩, rfl⟩;go_wp2;go_ret;exact ⟨rfl, HST.out.then hb5⟩
theorem K5 (w : World) {g : Nat} {B : List UInt8} {a : Option Addr} {s : Rs} (h : AZ w g B a s) (n : Int) (hn : n ≤ 9223372036854775807) (hB : B.length ≤ 1000000000000) : Calls Tryz.prog 198 #[.pointer (some ⟨g, 0, none⟩), .int .i64 n] w fun r w' => ∃ v, r = .returned v ∧ Ah.r (fun q => w.heap.size ≤ q ∧ q < w'.heap.size) w' [v] (s.take B n).2 ∧ AE w g B a (s.take B n).1 w' := by
 have HS := hid (Rz w h n hn)
 unfold Rs.take;cases hk : (s.skip B.length n).1
 ·rw [hk] at HS
  generalize (s.skip B.length n).2 = s1 at *
  clear h hk;go_enter Tryz.func198, Tryz.ntmps198
  go_wp2_with fail;refine HS.out.mono ?_
  rintro r w1 ⟨rfl, hst⟩;have HST := hid hst
  clear hst;go_wp2;go_ret;exact ⟨_, rfl, Co rfl rfl zC, HST.out⟩
 ·obtain ⟨h0, h1, h2, h3⟩ := Rs.GU hk
  rw [hk, h3] at HS
  rw [h3]
  obtain ⟨m, rfl⟩ : ∃ m : Nat, n = m := ⟨n.toNat, zC⟩
  rw [show ((m : Int)).toNat = m by omega] at *
  obtain ⟨i0, hi, hz0, hz1, hz2⟩ := A8 Dz
  have hp : s.p + m ≤ B.length := by have := h.ok.le; omega
  simp only [JG]
  clear h hk h0 h1 h2 h3;go_enter Tryz.func198, Tryz.ntmps198
  go_wp2_with fail;refine HS.out.mono ?_
  rintro r w1 ⟨rfl, hst⟩;obtain ⟨aD, cD, hsl, hsub⟩ := Nb hst.1.dat (lo := s.p) (hi := s.p + m) zC hp
  have hlD : ((B.drop s.p).take (s.p + m - s.p)).length = m := zJ
  rw [show s.p + m - s.p = m by omega] at hsl hsub hlD
  generalize hDe : (B.drop s.p).take m = D at *
  have HDE := hid hDe
  clear hDe;have hDm : m = D.length := hlD.symm
  obtain ⟨P1, hP1⟩ : ∃ P1 : Nat, P1 = s.p + m := ⟨_, rfl⟩
  rw [← hP1, show (s.p : Int) = (P1 : Int) - (m : Int) by omega] at hsl
  have HSB := hid (fun (W : World) (hW : Below w1.heap.size w1 W) => A5 (l := D) (lift (w := w1) (A := Ah) (cs := [.slice aD D.length cD]) zB6 hW))
  have HONE := hid (AI D)
  have c1 := hst.1.blk.cell 1
  have c0 := hst.1.blk.cell 0
  simp at c0
  rw [← hP1] at c1 hst hp
  simp at c1
  have lt := hst.1.blk.lt
  have HST := hid hst
  have HDM := hid hDm
  have hs1 := hst.size
  have HP1 := hid hP1
  have hPm : m ≤ P1 := zC
  clear hst hsub hlD hDm hP1;have hb1 : (P1 : Int) ≤ 9223372036854775807 := zC
  go_wp2_with fail;have j1 : IntKind.i64.wrap ((P1 : Int) - (m : Int)) = (P1 : Int) - (m : Int) := IntWalk.i64_in _ zC
  go_region_held3 (fun w' => w'.cell? ⟨g, 0, none⟩ = some (.slice a B.length B.length) ∧ w'.cell? ⟨g, 1, none⟩ = some (.int .i64 (P1 : Int))) (((try dsimp only); refine ⟨?_, ?_⟩ <;> (first | assumption | (go_keep; done))))
   ((go_loud (refine BI zT _ _ _ zT w1.heap.size 5 i0 (.int .u8 0) 1 1 As hi hz0 hz1 hz2 rfl zP _ 0 [] zT (EI _ zO zT) aD m cD (byteCells D) zT ZC HONE.out (by clear j1; simp only [maxLen]; omega) (by clear j1; omega) zO ?_; intro a5 c5 w5 hown5 hgrow5 hat5; rw [A3] at hown5; have k5 : Below w1.heap.size w1 w5 := Below.grown zB hgrow5 zO (fun g e => by { have e' : some w1.heap.size = some g := e; injection e' with e'; clear j1; omega }); have e0 := (k5.cell (p := ⟨g, 0, none⟩) lt).trans c0; have e1 := (k5.cell (p := ⟨g, 1, none⟩) lt).trans c1; have HK5 := hid k5; have HO5 := hid hown5; clear hown5 hgrow5 hat5 k5)))
  all_goals
   clear j1;have ho := HO5.out
   rw [Bj] at ho
   have hA := B9 HDM.out ho
   have HA := hid hA
   clear ho hA;go_wp2;go_ret;refine ⟨_, rfl, ?_, ?_⟩
   ·rw [HDE.out]
    exact Ah.mono HA.out fun q hq => ⟨zC, hq.2⟩
   ·rw [← HP1.out]
    exact HST.out.then HK5.out
theorem Tq (w : World) {g : Nat} {B : List UInt8} {a : Option Addr} {s : Rs} (h : AZ w g B a s) (at_ : Nat) (hat : at_ ≤ s.p) (hB : B.length ≤ 1000000000000) : Calls Tryz.prog 201 #[.pointer (some ⟨g, 0, none⟩), .int .i64 (at_ : Int)] w fun r w' => ∃ v, r = .returned v ∧ Ah.r (fun q => w.heap.size ≤ q ∧ q < w'.heap.size) w' [v] ((B.drop at_).take (s.p - at_)) ∧ Below w.heap.size w w' := by
 obtain ⟨i0, hi, hz0, hz1, hz2⟩ := A8 Dz
 have hp : s.p ≤ B.length := h.ok.le
 obtain ⟨aD, cD, hsl, hsub⟩ := Nb h.dat (lo := at_) (hi := s.p) hat hp
 have hlD : ((B.drop at_).take (s.p - at_)).length = s.p - at_ := zJ
 obtain ⟨m, hm⟩ : ∃ m : Nat, m = s.p - at_ := ⟨_, rfl⟩
 rw [← hm] at hsl hsub hlD ⊢
 generalize (B.drop at_).take m = D at *
 have hDm : m = D.length := hlD.symm
 have HSB := hid (fun (W : World) (hW : Below w.heap.size w W) => A5 (l := D) (lift (w := w) (A := Ah) (cs := [.slice aD D.length cD]) zB6 hW))
 have HONE := hid (AI D)
 have c1 := h.blk.cell 1
 have c0 := h.blk.cell 0
 simp at c0 c1
 have lt := h.blk.lt
 have HDM := hid hDm
 generalize s.p = P1 at *
 have d1 : decide ((at_ : Int) < 0) = false := Ad zC
 have d2 : decide ((P1 : Int) < (at_ : Int)) = false := Ad zC
 have d3 : decide (P1 < at_) = false := Ad zC
 have hmB : m ≤ B.length := zC
 clear h hsub hlD hDm hm;go_enter Tryz.func201, Tryz.ntmps201
 go_wp2_with fail;go_region_held3 (fun w' => w'.cell? ⟨g, 0, none⟩ = some (.slice a B.length B.length) ∧ w'.cell? ⟨g, 1, none⟩ = some (.int .i64 (P1 : Int))) (((try dsimp only); refine ⟨?_, ?_⟩ <;> (first | assumption | (go_keep; done))))
  ((go_loud (refine BI zT _ _ _ zT w.heap.size 5 i0 (.int .u8 0) 1 1 As hi hz0 hz1 hz2 rfl zP _ 0 [] zT (EI _ zO zT) aD m cD (byteCells D) zT ZC HONE.out zK zC zO ?_; intro a5 c5 w5 hown5 hgrow5 hat5; rw [A3] at hown5; have k5 : Below w.heap.size w w5 := Below.grown zB hgrow5 zO (fun g e => zBl); have e0 := (k5.cell (p := ⟨g, 0, none⟩) lt).trans c0; have e1 := (k5.cell (p := ⟨g, 1, none⟩) lt).trans c1; have HK5 := hid k5; have HO5 := hid hown5; clear hown5 hgrow5 hat5 k5)))
 all_goals
  have ho := HO5.out
  rw [Bj] at ho
  have hA := B9 HDM.out ho
  have HA := hid hA
  clear ho hA;go_wp2;go_ret;exact ⟨_, rfl, HA.out, HK5.out⟩
theorem Cn {w : World} {g : Nat} {t : TypeId} {v0 v1 : Value} (h : Blk w g t #[v0, v1]) : w.cell? ⟨g, 0, none⟩ = some v0 ∧ w.cell? ⟨g, 1, none⟩ = some v1 ∧ w.frozen? ⟨g, 0, none⟩ = false ∧ w.frozen? ⟨g, 1, none⟩ = false ∧ g < w.heap.size :=
 ⟨h.cell 0, h.cell 1, h.free 0, h.free 1, h.lt⟩
def DY : Nat → Nat → List UInt8 → Nat × Nat × Int
 | i, x, [] => (0, i, 1)
 | i, x, c :: l =>
  if i = 9 ∧ 1 < c.toNat then (0, i + 1, 5)
  else if 0 < i ∧ c.toNat = 0 then (0, i + 1, 4)
  else if c.toNat < 128 then (x + c.toNat * 128 ^ i, i + 1, 0)
  else DY (i + 1) (x + c.toNat % 128 * 128 ^ i) l
def Rs.num (B : List UInt8) (s : Rs) : Rs × Nat :=
 if s.k = 0 then
  let r := DY 0 0 (B.drop s.p)
  (⟨s.p + r.2.1, r.2.2, if r.2.2 = 0 then 0 else if r.2.2 = 1 then B.length else s.p + r.2.1 - 1⟩, r.1)
 else (s, 0)
theorem GR : ∀ (l : List UInt8) (i x : Nat), (DY i x l).2.1 ≤ i + l.length ∧ i ≤ (DY i x l).2.1 ∧ ((DY i x l).2.2 = 0 ∨ (DY i x l).2.2 = 1 ∨ (DY i x l).2.2 = 4 ∨ (DY i x l).2.2 = 5) ∧ ((DY i x l).2.2 = 1 → (DY i x l).2.1 = i + l.length) ∧ ((DY i x l).2.2 ≠ 1 → i < (DY i x l).2.1)
 | [], i, x => by simp [DY]
 | c :: l, i, x => by
  unfold DY;split
  ·simp
  ·split
   ·simp
   ·split
    ·simp
    ·have := GR l (i + 1) (x + c.toNat % 128 * 128 ^ i)
     refine ⟨zJ, zC, this.2.2.1, fun h => by have := this.2.2.2.1 h; simp; omega, fun h => by have := this.2.2.2.2 h; omega⟩
theorem Rs.EP {B : List UInt8} {s : Rs} (h : s.ok B.length) : (s.num B).1.ok B.length := by
 unfold Rs.num;split
 ·have := GR (B.drop s.p) 0 0
  have hl : (B.drop s.p).length = B.length - s.p := zO
  refine ⟨by dsimp only; have := h.le; omega, fun e => by dsimp only at e ⊢; rw [Am e]⟩
 ·exact h
theorem Rs.TR {B : List UInt8} {s : Rs} : s.p ≤ (s.num B).1.p := by
 unfold Rs.num;split
 ·dsimp only; omega
 ·exact Ak _
theorem Rs.Jm {B : List UInt8} {s : Rs} (h : (s.num B).1.k ≠ 0) : (s.num B).2 = 0 := by
 have key : ∀ (l : List UInt8) (i x : Nat), (DY i x l).2.2 ≠ 0 → (DY i x l).1 = 0 := by
  intro l;induction l with
  | nil => intro i x h; rfl
  | cons c l ih =>
   intro i x h;unfold DY at h ⊢;split
   ·rfl
   ·rename_i h1
    rw [An h1] at h
    split
    ·rfl
    ·rename_i h2
     rw [An h2] at h
     split
     ·rename_i h3
      rw [Am h3] at h; simp at h
     ·rename_i h3
      rw [An h3] at h
      exact ih _ _ h
 unfold Rs.num at *;split
 ·rename_i h0
  rw [Am h0] at h
  exact key _ _ _ h
 ·rfl
theorem Lg : ∀ (l : List UInt8) (i x : Nat), i ≤ 9 → x < 128 ^ i → (DY i x l).1 < 18446744073709551616
 | [], i, x, _, _ => by simp [DY]
 | c :: l, i, x, hi, hx => by
  unfold DY;have hc := c.toNat_lt
  split
  ·simp
  ·rename_i h9
   split
   ·simp
   ·split
    ·rename_i h3
     dsimp only;by_cases h : i = 9
     ·subst h
      have : c.toNat ≤ 1 := zC
      have h1 : c.toNat * 128 ^ 9 ≤ 1 * 128 ^ 9 := CQ _ this
      have h2 : (128 : Nat) ^ 9 = 9223372036854775808 := zP
      rw [h2] at *
      omega
     ·have h1 : c.toNat * 128 ^ i ≤ 127 * 128 ^ i := CQ _ zC
      have h2 : (128 : Nat) ^ i ≤ 128 ^ 8 := G4 zC zC
      have h3 : (128 : Nat) ^ 8 = 72057594037927936 := zP
      rw [h3] at h2
      omega
    ·rename_i h3
     have h9' : i ≠ 9 := fun e => h9 ⟨e, zC⟩
     refine Lg l (i + 1) _ zC ?_
     have h1 : c.toNat % 128 * 128 ^ i ≤ 127 * 128 ^ i := CQ _ zC
     rw [CL]
     omega
theorem Rs.DJ {B : List UInt8} {s : Rs} : (s.num B).2 < 18446744073709551616 := by
 unfold Rs.num;split
 ·exact Lg _ 0 0 zC zO
 ·simp
end Go.Proofs.YtlbffbkbkajciaaGreat
namespace Go.Bs
open Go.RowKit
def MT (J : Nat → Act → World → Prop) (Q : Exit → Act → World → Prop) : Exit → Act → World → Prop
 | .goto l, a, w => J l a w
 | e, a, w => Q e a w
section
variable {P : Program} {a : Act} {w : World} {Q : Exit → Act → World → Prop}
theorem Mk {c : Code} (J : Nat → Act → World → Prop) (μ : Nat → Act → World → Nat)
  (pass : ∀ l a w, J l a w → ∃ rest, findLabel c l = some rest ∧ rest.wp P (MT (fun l' a' w' => J l' a' w' ∧ μ l' a' w' < μ l a w) Q) a w)
  (first : c.wp P (MT J Q) a w) : (Code.scope c).wp P Q a w := by
 intro b k cs;have hg : ∀ {l rest}, findLabel c l = some rest → gotoIn l (.inScope c :: k) = some (.code rest :: .inScope c :: k) := fun hf => by simp [gotoIn, hf]
 have key : ∀ n l a w rest, findLabel c l = some rest → μ l a w = n → J l a w → ∃ e a' w', Q e a' w' ∧ Arrives P (lone (b.at a (.code rest :: .inScope c :: k)) cs w) b k cs e a' w' := by
  intro n;induction n using Nat.strongRecOn with
  | _ n ih =>
   intro l a w rest hf hn hJ;obtain ⟨rest', hf', hp⟩ := pass l a w hJ
   obtain rfl : rest' = rest := BH (hf'.symm.trans hf)
   obtain ⟨e, a₁, w₁, hq, harr⟩ := hp b (.inScope c :: k) cs
   cases e with
   | normal => exact ⟨.normal, a₁, w₁, hq, Steps.trans harr (.one step_inScope)⟩
   | exit id => exact ⟨.exit id, a₁, w₁, hq, fun k' hk => harr k' (by simp [exitTo, hk])⟩
   | goto l' =>
    obtain ⟨hJ', hlt⟩ := hq
    obtain ⟨rest2, hf2, _⟩ := pass l' a₁ w₁ hJ'
    obtain ⟨e₂, a₂, w₂, hq₂, harr₂⟩ := ih _ zC l' a₁ w₁ rest2 hf2 rfl hJ'
    exact ⟨e₂, a₂, w₂, hq₂, .of_steps (harr _ (hg hf2)) harr₂⟩
   | ret => exact ⟨_, a₁, w₁, hq, harr⟩
   | panic ch => exact ⟨_, a₁, w₁, hq, harr⟩
   | outgrown => exact ⟨_, a₁, w₁, hq, harr⟩
 obtain ⟨e, a₁, w₁, hq, harr⟩ := first b (.inScope c :: k) cs
 cases e with
 | normal => exact ⟨.normal, a₁, w₁, hq, .head step_scope (Steps.trans harr (.one step_inScope))⟩
 | exit id => exact ⟨.exit id, a₁, w₁, hq, fun k' hk => .head step_scope (harr k' (by simp [exitTo, hk]))⟩
 | goto l' =>
  obtain ⟨rest2, hf2, _⟩ := pass l' a₁ w₁ hq
  obtain ⟨e₂, a₂, w₂, hq₂, harr₂⟩ := key _ l' a₁ w₁ rest2 hf2 rfl hq
  exact ⟨e₂, a₂, w₂, hq₂, .of_steps (.head step_scope (harr _ (hg hf2))) harr₂⟩
 | ret => exact ⟨_, a₁, w₁, hq, .of_steps (.one step_scope) harr⟩
 | panic ch => exact ⟨_, a₁, w₁, hq, .of_steps (.one step_scope) harr⟩
 | outgrown => exact ⟨_, a₁, w₁, hq, .of_steps (.one step_scope) harr⟩
theorem Hz {c : Code} (h : c.wp P Q a w) : (Code.skip.seq c).wp P Q a w := wp_seq (wp_skip h)
theorem Ld {c rest : Code} (l : Nat) (J : Act → World → Prop) (μ : Act → World → Nat) (hf : findLabel c l = some (Code.skip.seq rest))
  (pass : ∀ a w, J a w → rest.wp P (Exit.jump l (fun a' w' => J a' w' ∧ μ a' w' < μ a w) Q) a w)
  (first : ∀ K : Exit → Act → World → Prop, (∀ a w, J a w → rest.wp P K a w) → c.wp P K a w) : (Code.scope c).wp P Q a w :=
 wp_scope_jumps l J μ hf (first _ fun a w h => wp_mono (pass a w h) fun e a' w' hq => by
  cases e <;> first | exact hq | exact ⟨hq.1, hq.2.1⟩) fun a w h => Hz (pass a w h)
theorem Nn {c rest rest2 : Code} (l m : Nat) (hlm : l ≠ m) (J J2 : Act → World → Prop) (μ : Act → World → Nat) (hf : findLabel c l = some (Code.skip.seq rest)) (hf2 : findLabel c m = some (Code.skip.seq rest2))
  (pass : ∀ a w, J a w → rest.wp P (MT (fun l' a' w' => (l' = l ∧ J a' w' ∧ μ a' w' < μ a w) ∨ (l' = m ∧ J2 a' w')) Q) a w)
  (last : ∀ a w, J2 a w → rest2.wp P (MT (fun _ _ _ => False) Q) a w)
  (first : ∀ K : Exit → Act → World → Prop, (∀ a w, J a w → rest.wp P K a w) → c.wp P K a w) : (Code.scope c).wp P Q a w := by
 refine Mk (fun l' a w => (l' = l ∧ J a w) ∨ (l' = m ∧ J2 a w)) (fun l' a w => if l' = l then μ a w + 1 else 0) ?_ ?_
 ·rintro l' a w (⟨rfl, h⟩ | ⟨rfl, h⟩)
  ·refine ⟨_, hf, Hz (wp_mono (pass a w h) fun e a' w' hq => ?_)⟩
   cases e <;> first | exact hq | skip
   rcases hq with ⟨rfl, h1, h2⟩ | ⟨rfl, h1⟩
   ·exact ⟨.inl ⟨rfl, h1⟩, zJ⟩
   ·exact ⟨.inr ⟨rfl, h1⟩, by simp [Ne.symm hlm]⟩
  ·refine ⟨_, hf2, Hz (wp_mono (last a w h) fun e a' w' hq => ?_)⟩
   cases e <;> first | exact hq | exact hq.elim
 ·refine first _ fun a w h => wp_mono (pass a w h) fun e a' w' hq => ?_
  cases e <;> first | exact hq | skip
  rcases hq with ⟨rfl, h1, _⟩ | ⟨rfl, h1⟩
  ·exact .inl ⟨rfl, h1⟩
  ·exact .inr ⟨rfl, h1⟩
end
end Go.Bs
namespace Go.Proofs.YtlbffbkbkajciaaGreat
open Go.RowKit Go.Bs Go.Maps
def PF (L p i : Nat) (r : Nat × Nat × Int) : Rs × Nat := (⟨p + r.2.1 - i, r.2.2, if r.2.2 = 0 then 0 else if r.2.2 = 1 then L else ((p + r.2.1 - i : Nat) : Int) - 1⟩, r.1)
def vgo (B : List UInt8) (i X : Nat) (s : Rs) : Rs × Nat := if s.k = 0 then PF B.length s.p i (DY i X (B.drop s.p)) else (s, 0)
theorem Uw (B : List UInt8) (s : Rs) : vgo B 0 0 s = s.num B := by
 unfold vgo Rs.num PF;simp
theorem RU (i x : Nat) (c : UInt8) (l : List UInt8) : DY i x (c :: l) = if i = 9 ∧ 1 < c.toNat then (0, i + 1, 5) else if 0 < i ∧ c.toNat = 0 then (0, i + 1, 4) else if c.toNat < 128 then (x + c.toNat * 128 ^ i, i + 1, 0) else DY (i + 1) (x + c.toNat % 128 * 128 ^ i) l := by rw [DY]
theorem S5 {B : List UInt8} {s : Rs} (hs : s.ok B.length) (i X : Nat) : vgo B i X s =
  if (s.byte B).1.k = 0 then
   (if i = 9 ∧ 1 < (s.byte B).2.toNat then ((s.byte B).1.fail 5 ((s.byte B).1.p - 1), 0)
   else if 0 < i ∧ (s.byte B).2.toNat = 0 then ((s.byte B).1.fail 4 ((s.byte B).1.p - 1), 0)
   else if (s.byte B).2.toNat < 128 then ((s.byte B).1, X + (s.byte B).2.toNat * 128 ^ i)
   else vgo B (i + 1) (X + (s.byte B).2.toNat % 128 * 128 ^ i) (s.byte B).1)
  else ((s.byte B).1, 0) := by
 have hle := hs.le
 unfold Rs.byte;by_cases h0 : s.k = 0
 ·by_cases h1 : s.p < B.length
  ·have e : s.skip B.length 1 = (true, ⟨s.p + 1, 0, 0⟩) := by
    unfold Rs.skip; rw [Am h0, An zC, An zC]; simp
   rw [e]
   have hd : B.drop s.p = B.getD s.p 0 :: B.drop (s.p + 1) := by
    rw [AW h1]; simp [h1]
   simp only [JG]
   unfold vgo;rw [Am h0, hd, RU]
   have hu := (GR (B.drop (s.p + 1)) (i + 1) (X + (B.getD s.p 0).toNat % 128 * 128 ^ i)).2.1
   have e1 : s.p + (i + 1) - i = s.p + 1 := zC
   split
   ·simp [PF, Rs.fail, e1]
   ·split
    ·simp [PF, Rs.fail, e1]
    ·split
     ·simp [PF, e1]
     ·generalize DY (i + 1) (X + (B.getD s.p 0).toNat % 128 * 128 ^ i) (B.drop (s.p + 1)) = r at *
      simp only [JG, PF]
      rw [show s.p + r.2.1 - i = s.p + 1 + r.2.1 - (i + 1) by omega]
  ·have e : s.skip B.length 1 = (false, ⟨s.p, 1, B.length⟩) := by
    unfold Rs.skip; rw [Am h0, An zC, Am zC]
   rw [e]
   have hd : B.drop s.p = [] := List.drop_eq_nil_of_le zC
   unfold vgo;rw [Am h0, hd]
   simp [DY, PF]
 ·have e : s.skip B.length 1 = (false, s) := by unfold Rs.skip; rw [An h0]
  rw [e]
  unfold vgo;rw [An h0]
  simp [h0]
theorem TO {i X m : Nat} (hX : X < 128 ^ i) (hx : X < 18446744073709551616) (hm : m * 128 ^ i < 18446744073709551616) : bits .or .u64 (X : Int) ((m * 128 ^ i : Nat) : Int) = ((X + m * 128 ^ i : Nat) : Int) := by
 rw [bits_or_u64_nat _ _ hx hm]
 have h1 : (128 : Nat) ^ i = 2 ^ (7 * i) := by rw [Nat.pow_mul]
 rw [h1] at hX ⊢
 rw [Nat.or_comm, ← Nat.shiftLeft_eq, ← Nat.shiftLeft_add_eq_or_of_lt hX, Nat.add_comm]
theorem Ix {i X c : Nat} (hX : X < 128 ^ i) (hx : X < 18446744073709551616) (hm : c % 128 * 128 ^ i < 18446744073709551616) : bits .or .u64 (X : Int) (IntKind.u64.wrap ((c : Int) % 128 * 2 ^ (7 * i))) = ((X + c % 128 * 128 ^ i : Nat) : Int) := by
 have e : (c : Int) % 128 * 2 ^ (7 * i) = ((c % 128 * 128 ^ i : Nat) : Int) := by
  rw [show (128 : Nat) ^ i = 2 ^ (7 * i) by rw [Nat.pow_mul]]
  simp
 rw [e, Hq, Int.emod_eq_of_lt zC zC]
 exact TO hX hx hm
theorem QX {i X c : Nat} (hX : X < 128 ^ i) : X + c % 128 * 128 ^ i < 128 ^ (i + 1) := by
 have h1 : c % 128 * 128 ^ i ≤ 127 * 128 ^ i := CQ _ zC
 rw [CL]
 omega
theorem Hl {i X c : Nat} (hi : i ≤ 9) (hX : X < 128 ^ i) (h : i = 9 → c ≤ 1) : c % 128 * 128 ^ i < 18446744073709551616 ∧ X < 18446744073709551616 := by
 by_cases h9 : i = 9
 ·subst h9
  have h1 : (128 : Nat) ^ 9 = 9223372036854775808 := zP
  rw [h1] at *
  have := h rfl
  have h2 : c % 128 * 9223372036854775808 ≤ 1 * 9223372036854775808 := CQ _ zC
  omega
 ·have h1 : (128 : Nat) ^ i ≤ 128 ^ 8 := G4 zC zC
  have h3 : (128 : Nat) ^ 8 = 72057594037927936 := zP
  have h2 : c % 128 * 128 ^ i ≤ 127 * 128 ^ i := CQ _ zC
  omega
theorem NW {B : List UInt8} {s : Rs} {q : Nat} (hp : s.p = q) (h : (s.byte B).1.k = 0) : (s.byte B).1.p = q + 1 := by
 have h' : (s.skip B.length 1).2.k = 0 := h
 cases hk : (s.skip B.length 1).1
 ·exact absurd h' (Rs.Lt hk).1
 ·have := (Rs.GU hk).2.2.2
  show (s.skip B.length 1).2.p = _
  rw [this, hp]; rfl
theorem CM (w : World) {g : Nat} {B : List UInt8} {a : Option Addr} {s : Rs} (h : AZ w g B a s) (hB : B.length ≤ 1000000000000) : Calls Tryz.prog 210 #[.pointer (some ⟨g, 0, none⟩)] w fun r w' => r = .returned (.int .u64 ((s.num B).2 : Int)) ∧ AE w g B a (s.num B).1 w' := by
 have HH := hid h
 have HA := hid (Cc w h)
 have hpL := h.ok.le
 clear h;go_enter Tryz.func210, Tryz.ntmps210
 go_wp2;refine Ld 0 (fun a' W => ∃ (i X : Nat) (s' : Rs) (rest : Hid (vgo B i X s' = s.num B)) (u1 u4 u7 u8 u9 u10 u11 u12 u13 u14 u15 u16 u17 u18 u19 u20 u21 u22 u23 u24 u25 u26 u27 u28 u29 u30 u31 u32 u33 u34 u35 u36 u37 u38 u39 u40 u41 u42 u43 u44 u45 u46 u47 u48 u49 u50 u51 u52 u53 : Value), AE w g B a s' W ∧ s'.p = s.p + i ∧ i ≤ 9 ∧ X < 128 ^ i ∧ a' = { tmps := #[.pointer (some ⟨g, 0, none⟩), u1, .int .u64 0, .int .u64 (X : Int), u4, .int .i64 (7 * (i : Int)), .int .i64 (s.p : Int), u7, u8, u9, u10, u11, u12, u13, u14, u15, u16, u17, u18, u19, u20, u21, u22, u23, u24, u25, u26, u27, u28, u29, u30, u31, u32, u33, u34, u35, u36, u37, u38, u39, u40, u41, u42, u43, u44, u45, u46, u47, u48, u49, u50, u51, u52, u53], defers := [] }) (fun a' _ => 70 - (intOf (a'.tmps.getD 5 undef)).toNat) rfl ?_ ?_
 ·rintro a' W ⟨i, X, s', hrest, u1, u4, u7, u8, u9, u10, u11, u12, u13, u14, u15, u16, u17, u18, u19, u20, u21, u22, u23, u24, u25, u26, u27, u28, u29, u30, u31, u32, u33, u34, u35, u36, u37, u38, u39, u40, u41, u42, u43, u44, u45, u46, u47, u48, u49, u50, u51, u52, u53, hst, hp, hi, hX, rfl⟩
  have hk := hst.1
  have hB1 := hid (K7 W hk)
  have hvs := hid (S5 hk.ok i X)
  have hbok := Rs.RK hk.ok
  have HBP : Hid ((s'.byte B).1.k = 0 → (s'.byte B).1.p = s.p + i + 1) := hid (NW hp)
  rw [hrest.out] at hvs
  clear hrest;generalize s'.byte B = b at *
  obtain ⟨b1, c⟩ := b
  dsimp only at hB1 hvs hbok;go_wp2_with fail;refine hB1.out.mono ?_
  rintro r w1 ⟨rfl, hst1⟩;have hstW := hst
  by_cases hbk : b1.k = 0
  ·have hG := AH w1 hst1.1
   rw [Ae hbk] at hG
   have HG := hid hG
   have HK := hid hbk
   have hc := c.toNat_lt
   have hbge : 1 ≤ b1.p := by have := HBP.out hbk; omega
   have hpl := hbok.le
   clear hG hbk;go_wp2_with fail;refine HG.out.mono ?_
   rintro r w2 ⟨rfl, hb2⟩;by_cases h9 : i = 9
   ·have d1 : ((7 * (i : Int)) == 63) = true := by rw [h9]; rfl
    by_cases hc1 : 1 < c.toNat
    ·have d2 : decide ((1 : Int) < (c.toNat : Int)) = true := Ae zC
     have HF := hid (BB w2 (hst1.1.later hb2) 5 ((b1.p : Int) - 1) zC)
     have HAT := hid (Cc w2 (hst1.1.later hb2))
     replace hvs := hvs.out
     rw [Am HK.out, Am ⟨h9, hc1⟩] at hvs
     have HN := hid hvs
     clear hvs
     (try clear h9); (try clear hc0); (try clear hc1); (try clear hi0); (try clear hc7)
     have HST1 := hid hst1
     clear hst1 hst hk hbok;go_wp2_with fail;refine HAT.out.mono ?_
     rintro r w2' ⟨rfl, rfl⟩;go_wp2_with fail;refine HF.out.mono ?_
     rintro r w3 ⟨rfl, hst3⟩;have HST3 := hid (AE.trans HST1.out.2 (AE.trans (Tch.Cl (F := (· = g)) hb2) hst3))
     have HSTW := hid hstW
     clear hst3 hstW;go_wp2;simp only [Exit.jump]
     go_ret;rw [HN.out]; exact ⟨rfl, AE.trans HSTW.out.2 HST3.out⟩
    ·have d2 : decide ((1 : Int) < (c.toNat : Int)) = false := Ad zC
     have d5 : decide ((128 : Int) ≤ (c.toNat : Int)) = false := Ad zC
     by_cases hc0 : c.toNat = 0
     ·have d3 : ((c.toNat : Int) == 0) = true := by rw [hc0]; rfl
      have d4 : decide ((s.p : Int) < (b1.p : Int) - 1) = true := Ae zB0
      have HF := hid (BB w2 (hst1.1.later hb2) 4 ((b1.p : Int) - 1) zC)
      have HAT := hid (Cc w2 (hst1.1.later hb2))
      replace hvs := hvs.out
      rw [Am HK.out, An (fun e => hc1 e.2), Am ⟨zC, hc0⟩] at hvs
      have HN := hid hvs
      clear hvs
      (try clear h9); (try clear hc0); (try clear hc1); (try clear hi0); (try clear hc7)
      have HST1 := hid hst1
      clear hst1 hst hk hbok;go_wp2_with fail;refine HAT.out.mono ?_
      rintro r w2' ⟨rfl, rfl⟩;go_wp2_with fail;refine HAT.out.mono ?_
      rintro r w2' ⟨rfl, rfl⟩;go_wp2_with fail;refine HF.out.mono ?_
      rintro r w3 ⟨rfl, hst3⟩;have HST3 := hid (AE.trans HST1.out.2 (AE.trans (Tch.Cl (F := (· = g)) hb2) hst3))
      have HSTW := hid hstW
      clear hst3 hstW;go_wp2;simp only [Exit.jump]
      go_ret;rw [HN.out]; exact ⟨rfl, AE.trans HSTW.out.2 HST3.out⟩
     ·have d3 : ((c.toNat : Int) == 0) = false := by simp [hc0]
      have HAT := hid (Cc w2 (hst1.1.later hb2))
      replace hvs := hvs.out
      rw [Am HK.out, An (fun e => hc1 e.2), An (fun e => hc0 e.2), Am zC] at hvs
      have HN := hid hvs
      clear hvs;have HC7 : Hid (c.toNat % 128 = c.toNat) := hid (Ds zC)
      have HSTW := hid hstW
      have hmul : c.toNat % 128 * 128 ^ i < 18446744073709551616 ∧ X < 18446744073709551616 := Hl hi hX zC
      have E1 := hid (Ix (c := c.toNat) hX hmul.2 hmul.1)
      clear hmul;clear hstW; (try clear h9); (try clear hc0); (try clear hc1); (try clear hi0); (try clear hc7);have HST1 := hid hst1
      clear hst1 hst hk hbok;go_wp2_with fail;go_wp2;simp only [Exit.jump]
      go_ret;rw [HN.out]
      refine ⟨?_, AE.trans HSTW.out.2 (HST1.out.then hb2)⟩
      show Ending.returned (Value.int .u64 _) = _
      rw [E1.out, HC7.out]
   ·have d1 : ((7 * (i : Int)) == 63) = false := by rw [beq_eq_false_iff_ne]; omega
    by_cases hc0 : c.toNat = 0
    ·have d3 : ((c.toNat : Int) == 0) = true := by rw [hc0]; rfl
     by_cases hi0 : 0 < i
     ·have d4 : decide ((s.p : Int) < (b1.p : Int) - 1) = true := Ae zB0
      have HF := hid (BB w2 (hst1.1.later hb2) 4 ((b1.p : Int) - 1) zC)
      have HAT := hid (Cc w2 (hst1.1.later hb2))
      replace hvs := hvs.out
      rw [Am HK.out, An (fun e => h9 e.1), Am ⟨hi0, hc0⟩] at hvs
      have HN := hid hvs
      clear hvs
      (try clear h9); (try clear hc0); (try clear hc1); (try clear hi0); (try clear hc7)
      have HST1 := hid hst1
      clear hst1 hst hk hbok;go_wp2_with fail;refine HAT.out.mono ?_
      rintro r w2' ⟨rfl, rfl⟩;go_wp2_with fail;refine HAT.out.mono ?_
      rintro r w2' ⟨rfl, rfl⟩;go_wp2_with fail;refine HF.out.mono ?_
      rintro r w3 ⟨rfl, hst3⟩;have HST3 := hid (AE.trans HST1.out.2 (AE.trans (Tch.Cl (F := (· = g)) hb2) hst3))
      have HSTW := hid hstW
      clear hst3 hstW;go_wp2;simp only [Exit.jump]
      go_ret;rw [HN.out]; exact ⟨rfl, AE.trans HSTW.out.2 HST3.out⟩
     ·have d4 : decide ((s.p : Int) < (b1.p : Int) - 1) = false := Ad zB0
      have d5 : decide ((128 : Int) ≤ (c.toNat : Int)) = false := Ad zC
      have HAT := hid (Cc w2 (hst1.1.later hb2))
      replace hvs := hvs.out
      rw [Am HK.out, An (fun e => h9 e.1), An (fun e => hi0 e.1), Am zC] at hvs
      have HN := hid hvs
      clear hvs;have HC7 : Hid (c.toNat % 128 = c.toNat) := hid (Ds zC)
      have HSTW := hid hstW
      have hmul : c.toNat % 128 * 128 ^ i < 18446744073709551616 ∧ X < 18446744073709551616 := Hl hi hX zC
      have E1 := hid (Ix (c := c.toNat) hX hmul.2 hmul.1)
      clear hmul;clear hstW; (try clear h9); (try clear hc0); (try clear hc1); (try clear hi0); (try clear hc7);have HST1 := hid hst1
      clear hst1 hst hk hbok;go_wp2_with fail;refine HAT.out.mono ?_
      rintro r w2' ⟨rfl, rfl⟩;go_wp2_with fail;go_wp2;simp only [Exit.jump]
      go_ret;rw [HN.out]
      refine ⟨?_, AE.trans HSTW.out.2 (HST1.out.then hb2)⟩
      show Ending.returned (Value.int .u64 _) = _
      rw [E1.out, HC7.out]
    ·have d3 : ((c.toNat : Int) == 0) = false := by simp [hc0]
     by_cases hc7 : c.toNat < 128
     ·have d5 : decide ((128 : Int) ≤ (c.toNat : Int)) = false := Ad zC
      have HAT := hid (Cc w2 (hst1.1.later hb2))
      replace hvs := hvs.out
      rw [Am HK.out, An (fun e => h9 e.1), An (fun e => hc0 e.2), Am hc7] at hvs
      have HN := hid hvs
      clear hvs;have HC7 : Hid (c.toNat % 128 = c.toNat) := hid (Ds zC)
      have HSTW := hid hstW
      have hmul : c.toNat % 128 * 128 ^ i < 18446744073709551616 ∧ X < 18446744073709551616 := Hl hi hX zC
      have E1 := hid (Ix (c := c.toNat) hX hmul.2 hmul.1)
      clear hmul;clear hstW; (try clear h9); (try clear hc0); (try clear hc1); (try clear hi0); (try clear hc7);have HST1 := hid hst1
      clear hst1 hst hk hbok;go_wp2_with fail;go_wp2;simp only [Exit.jump]
      go_ret;rw [HN.out]
      refine ⟨?_, AE.trans HSTW.out.2 (HST1.out.then hb2)⟩
      show Ending.returned (Value.int .u64 _) = _
      rw [E1.out, HC7.out]
     ·have d5 : decide ((128 : Int) ≤ (c.toNat : Int)) = true := Ae zC
      have HAT := hid (Cc w2 (hst1.1.later hb2))
      replace hvs := hvs.out
      rw [Am HK.out, An (fun e => h9 e.1), An (fun e => hc0 e.2), An hc7] at hvs
      have HN := hid hvs
      clear hvs;have hi8 : i + 1 ≤ 9 := zC
      have HX8 := hid (QX (c := c.toNat) hX)
      have HSTW := hid hstW
      have hmul : c.toNat % 128 * 128 ^ i < 18446744073709551616 ∧ X < 18446744073709551616 := Hl hi hX (fun e => absurd e h9)
      have E1 := hid (Ix (c := c.toNat) hX hmul.2 hmul.1)
      clear hmul;clear hstW; (try clear h9); (try clear hc0); (try clear hc1); (try clear hi0); (try clear hc7);have HST1 := hid hst1
      clear hst1 hst hk hbok;go_wp2_with fail;go_step3
      rw [E1.out, show 7 * (i : Int) + 7 = 7 * ((i + 1 : Nat) : Int) by omega]
      refine ⟨rfl, ⟨i + 1, _, b1, hid HN.out.symm, _, _, _, _, _, _, _, _, _, _, _, _, _, _, _, _, _, _, _, _, _, _, _, _, _, _, _, _, _, _, _, _, _, _, _, _, _, _, _, _, _, _, _, _, _, _, _, _, _, AE.trans HSTW.out.2 (HST1.out.then hb2), HBP.out HK.out, hi8, HX8.out, rfl⟩, ?_⟩
      simp [intOf]
      omega
  ·have hG := AH w1 hst1.1
   rw [Ad hbk] at hG
   have HG := hid hG
   replace hvs := hvs.out
   rw [An hbk] at hvs
   have HN := hid hvs
   clear hvs;have HST1 := hid hst1
   have HSTW := hid hstW
   clear hG hbk hst1 hst hk hbok hstW;go_wp2_with fail;refine HG.out.mono ?_
   rintro r w2 ⟨rfl, hb2⟩;go_wp2;simp only [Exit.jump]
   go_ret;rw [HN.out]; exact ⟨rfl, AE.trans HSTW.out.2 (HST1.out.then hb2)⟩
 ·intro K hK
  go_wp2_with fail;refine HA.out.mono ?_
  rintro r w1 ⟨rfl, rfl⟩;go_wp2;go_step3
  rename_i hkk
  exact hkk _ _ (hK _ _ ⟨0, 0, s, hid (Uw B s), _, _, _, _, _, _, _, _, _, _, _, _, _, _, _, _, _, _, _, _, _, _, _, _, _, _, _, _, _, _, _, _, _, _, _, _, _, _, _, _, _, _, _, _, _, _, _, _, _, AE.refl HH.out, zC, zC, zO, rfl⟩)
def Rs.most (B : List UInt8) (s : Rs) (m : Nat) : Rs × Nat := if m < (s.num B).2 then ((s.num B).1.fail 2 s.p, 0) else s.num B
def Rs.int (B : List UInt8) (s : Rs) (m : Int) : Rs × Nat := if 0 ≤ m then s.most B m.toNat else ((s.num B).1.fail 2 s.p, 0)
def Rs.head (B : List UInt8) (s : Rs) : Rs × Bool × Nat :=
 if (s.num B).1.k = 0 then
  (if (s.num B).2 % 2 = 1 then (if 1048572 < (s.num B).2 / 2 then ((s.num B).1.fail 2 s.p, false, 0) else ((s.num B).1, true, (s.num B).2 / 2 + 4))
  else (if 1048575 < (s.num B).2 / 2 then ((s.num B).1.fail 2 s.p, false, 0) else ((s.num B).1, false, (s.num B).2 / 2 + 1)))
 else ((s.num B).1, false, 0)
def Rs.offset (B : List UInt8) (s : Rs) : Rs × Nat :=
 let t := if 65536 ≤ (s.num B).2 then (s.num B).1.fail 10 s.p else (s.num B).1
 (t, if t.k = 0 then (s.num B).2 + 1 else 0)
theorem Rs.UR {B : List UInt8} {s : Rs} (h : s.ok B.length) {m : Nat} : (s.most B m).1.ok B.length := by
 unfold Rs.most; split
 ·exact Rs.FZ (Rs.EP h) zC
 ·exact Rs.EP h
theorem Rs.NM {B : List UInt8} {s : Rs} (h : s.ok B.length) {m : Int} : (s.int B m).1.ok B.length := by
 unfold Rs.int; split
 ·exact Rs.UR h
 ·exact Rs.FZ (Rs.EP h) zC
theorem Rs.Hi {B : List UInt8} {s : Rs} (h : s.ok B.length) : (s.head B).1.ok B.length := by
 unfold Rs.head; split
 ·split
  ·split
   ·exact Rs.FZ (Rs.EP h) zC
   ·exact Rs.EP h
  ·split
   ·exact Rs.FZ (Rs.EP h) zC
   ·exact Rs.EP h
 ·exact Rs.EP h
theorem Rs.JZ {B : List UInt8} {s : Rs} (h : s.ok B.length) : (s.offset B).1.ok B.length := by
 unfold Rs.offset; dsimp only; split
 ·exact Rs.FZ (Rs.EP h) zC
 ·exact Rs.EP h
theorem Rs.GP {B : List UInt8} {s : Rs} {m : Int} : (s.int B m).2 ≤ m.toNat := by
 unfold Rs.int Rs.most; split
 ·split
  ·simp
  ·omega
 ·simp
theorem Kq (w : World) {g : Nat} {B : List UInt8} {a : Option Addr} {s : Rs} (h : AZ w g B a s) (hB : B.length ≤ 1000000000000) (m : Nat) : Calls Tryz.prog 232 #[.pointer (some ⟨g, 0, none⟩), .int .u64 (m : Int)] w fun r w' => r = .returned (.int .u64 ((s.most B m).2 : Int)) ∧ AE w g B a (s.most B m).1 w' := by
 have HA := hid (Cc w h)
 have HN := hid (CM w h hB)
 unfold Rs.most;generalize s.num B = N at *
 obtain ⟨s1, x⟩ := N
 dsimp only at *;clear h;by_cases hm : m < x
 ·have d1 : decide (m < x) = true := Ae hm
  have d1' : decide ((m : Int) < (x : Int)) = true := Ae zC
  rw [Am hm]
  clear hm;go_enter Tryz.func232, Tryz.ntmps232
  go_wp2_with fail;refine HA.out.mono ?_
  rintro r w' ⟨rfl, rfl⟩;go_wp2_with fail;refine HN.out.mono ?_
  rintro r w1 ⟨rfl, hst⟩;have HF := hid (BB w1 hst.1 2 s.p zC)
  have HST := hid hst
  clear hst;go_wp2_with fail;refine HF.out.mono ?_
  rintro r w2 ⟨rfl, hst2⟩;have HST2 := hid hst2
  clear hst2;go_wp2;go_ret;exact ⟨rfl, AE.trans HST.out.2 HST2.out⟩
 ·have d1 : decide (m < x) = false := Ad hm
  have d1' : decide ((m : Int) < (x : Int)) = false := Ad zC
  rw [An hm]
  clear hm;go_enter Tryz.func232, Tryz.ntmps232
  go_wp2_with fail;refine HA.out.mono ?_
  rintro r w' ⟨rfl, rfl⟩;go_wp2_with fail;refine HN.out.mono ?_
  rintro r w1 ⟨rfl, hst⟩;have HST := hid hst
  clear hst;go_wp2;go_ret;exact ⟨rfl, HST.out⟩
theorem Ef (w : World) {g : Nat} {B : List UInt8} {a : Option Addr} {s : Rs} (h : AZ w g B a s) (hB : B.length ≤ 1000000000000) (m : Int) (hm : -9223372036854775808 ≤ m ∧ m ≤ 9223372036854775807) : Calls Tryz.prog 185 #[.pointer (some ⟨g, 0, none⟩), .int .i64 m] w fun r w' => r = .returned (.int .i64 ((s.int B m).2 : Int)) ∧ AE w g B a (s.int B m).1 w' := by
 by_cases h0 : 0 ≤ m
 ·obtain ⟨n, rfl⟩ : ∃ n : Nat, m = n := ⟨m.toNat, zC⟩
  have HM := hid (Kq w h hB n)
  have hle : (s.int B n).2 ≤ 9223372036854775807 := by have := Rs.GP (B := B) (s := s) (m := (n : Int)); omega
  have e : s.int B n = s.most B n := by unfold Rs.int; rw [Am h0]; rfl
  rw [e] at hle ⊢
  have d1 : decide ((0 : Int) ≤ (n : Int)) = true := Ae h0
  generalize s.most B n = N at *
  obtain ⟨s1, x⟩ := N
  dsimp only at *;clear h e;go_enter Tryz.func185, Tryz.ntmps185
  go_wp2_with fail;refine HM.out.mono ?_
  rintro r w1 ⟨rfl, hst⟩;have HST := hid hst
  clear hst;go_wp2;go_ret;exact ⟨rfl, HST.out⟩
 ·have HA := hid (Cc w h)
  have HN := hid (CM w h hB)
  have e : s.int B m = ((s.num B).1.fail 2 s.p, 0) := by unfold Rs.int; rw [An h0]
  rw [e]
  have d1 : decide ((0 : Int) ≤ m) = false := Ad h0
  generalize s.num B = N at *
  obtain ⟨s1, x⟩ := N
  dsimp only at *;clear h e h0;go_enter Tryz.func185, Tryz.ntmps185
  go_wp2_with fail;refine HA.out.mono ?_
  rintro r w' ⟨rfl, rfl⟩;go_wp2_with fail;refine HN.out.mono ?_
  rintro r w1 ⟨rfl, hst⟩;have HF := hid (BB w1 hst.1 2 s.p zC)
  have HST := hid hst
  clear hst;go_wp2_with fail;refine HF.out.mono ?_
  rintro r w2 ⟨rfl, hst2⟩;have HST2 := hid hst2
  clear hst2;go_wp2;go_ret;exact ⟨rfl, AE.trans HST.out.2 HST2.out⟩
theorem PM (w : World) {g : Nat} {B : List UInt8} {a : Option Addr} {s : Rs} (h : AZ w g B a s) (hB : B.length ≤ 1000000000000) : Calls Tryz.prog 258 #[.pointer (some ⟨g, 0, none⟩)] w fun r w' => r = .returned (.tuple #[.bool (s.head B).2.1, .int .i64 ((s.head B).2.2 : Int)]) ∧ AE w g B a (s.head B).1 w' := by
 have HA := hid (Cc w h)
 have HN := hid (CM w h hB)
 have hsm := Rs.DJ (B := B) (s := s)
 unfold Rs.head;generalize s.num B = N at *
 obtain ⟨s1, x⟩ := N
 dsimp only at *;clear h;by_cases hk : s1.k = 0
 ·rw [Am hk]
  by_cases h2 : x % 2 = 1
  ·have d2 : (((x : Int) % 2) == 1) = true := by rw [beq_iff_eq]; omega
   rw [Am h2]
   by_cases hl : 1048572 < x / 2
   ·have d3 : decide ((1048572 : Int) < (x : Int) / 2) = true := Ae zC
    rw [Am hl]
    have dk : decide (s1.k = 0) = true := Ae hk
    clear hk h2 hl;go_enter Tryz.func258, Tryz.ntmps258
    go_wp2_with fail;refine HA.out.mono ?_
    rintro r w' ⟨rfl, rfl⟩;go_wp2_with fail;refine HN.out.mono ?_
    rintro r w1 ⟨rfl, hst⟩;have HG := hid (AH w1 hst.1)
    rw [dk] at HG
    have HST := hid hst
    clear hst dk;go_wp2_with fail;refine HG.out.mono ?_
    rintro r w2 ⟨rfl, hb2⟩;have HF := hid (BB w2 (HST.out.1.later hb2) 2 s.p zC)
    go_wp2_with fail;refine HF.out.mono ?_
    rintro r w3 ⟨rfl, hst3⟩;have HST3 := hid hst3
    clear hst3;go_wp2;go_ret2
    exact ⟨rfl, AE.trans (HST.out.then hb2).2 HST3.out⟩
   ·have d3 : decide ((1048572 : Int) < (x : Int) / 2) = false := Ad zC
    rw [An hl]
    have dk : decide (s1.k = 0) = true := Ae hk
    clear hk h2;go_enter Tryz.func258, Tryz.ntmps258
    go_wp2_with fail;refine HA.out.mono ?_
    rintro r w' ⟨rfl, rfl⟩;go_wp2_with fail;refine HN.out.mono ?_
    rintro r w1 ⟨rfl, hst⟩;have HG := hid (AH w1 hst.1)
    rw [dk] at HG
    have HST := hid hst
    clear hst dk;go_wp2_with fail;refine HG.out.mono ?_
    rintro r w2 ⟨rfl, hb2⟩;go_wp2;go_ret2
    exact ⟨zO, HST.out.then hb2⟩
  ·have d2 : (((x : Int) % 2) == 1) = false := by rw [beq_eq_false_iff_ne]; omega
   rw [An h2]
   by_cases hl : 1048575 < x / 2
   ·have d3 : decide ((1048575 : Int) < (x : Int) / 2) = true := Ae zC
    rw [Am hl]
    have dk : decide (s1.k = 0) = true := Ae hk
    clear hk h2 hl;go_enter Tryz.func258, Tryz.ntmps258
    go_wp2_with fail;refine HA.out.mono ?_
    rintro r w' ⟨rfl, rfl⟩;go_wp2_with fail;refine HN.out.mono ?_
    rintro r w1 ⟨rfl, hst⟩;have HG := hid (AH w1 hst.1)
    rw [dk] at HG
    have HST := hid hst
    clear hst dk;go_wp2_with fail;refine HG.out.mono ?_
    rintro r w2 ⟨rfl, hb2⟩;have HF := hid (BB w2 (HST.out.1.later hb2) 2 s.p zC)
    go_wp2_with fail;refine HF.out.mono ?_
    rintro r w3 ⟨rfl, hst3⟩;have HST3 := hid hst3
    clear hst3;go_wp2;go_ret2
    exact ⟨rfl, AE.trans (HST.out.then hb2).2 HST3.out⟩
   ·have d3 : decide ((1048575 : Int) < (x : Int) / 2) = false := Ad zC
    rw [An hl]
    have dk : decide (s1.k = 0) = true := Ae hk
    clear hk h2;go_enter Tryz.func258, Tryz.ntmps258
    go_wp2_with fail;refine HA.out.mono ?_
    rintro r w' ⟨rfl, rfl⟩;go_wp2_with fail;refine HN.out.mono ?_
    rintro r w1 ⟨rfl, hst⟩;have HG := hid (AH w1 hst.1)
    rw [dk] at HG
    have HST := hid hst
    clear hst dk;go_wp2_with fail;refine HG.out.mono ?_
    rintro r w2 ⟨rfl, hb2⟩;go_wp2;go_ret2
    exact ⟨zO, HST.out.then hb2⟩
 ·rw [An hk]
  have dk : decide (s1.k = 0) = false := Ad hk
  clear hk;go_enter Tryz.func258, Tryz.ntmps258
  go_wp2_with fail;refine HA.out.mono ?_
  rintro r w' ⟨rfl, rfl⟩;go_wp2_with fail;refine HN.out.mono ?_
  rintro r w1 ⟨rfl, hst⟩;have HG := hid (AH w1 hst.1)
  rw [dk] at HG
  have HST := hid hst
  clear hst dk;go_wp2_with fail;refine HG.out.mono ?_
  rintro r w2 ⟨rfl, hb2⟩;go_wp2;go_ret2
  exact ⟨rfl, HST.out.then hb2⟩
theorem Np (w : World) {g : Nat} {B : List UInt8} {a : Option Addr} {s : Rs} (h : AZ w g B a s) (hB : B.length ≤ 1000000000000) : Calls Tryz.prog 259 #[.pointer (some ⟨g, 0, none⟩)] w fun r w' => r = .returned (.int .i64 ((s.offset B).2 : Int)) ∧ AE w g B a (s.offset B).1 w' := by
 have HA := hid (Cc w h)
 have HN := hid (CM w h hB)
 have hsm := Rs.DJ (B := B) (s := s)
 unfold Rs.offset;dsimp only;generalize s.num B = N at *
 obtain ⟨s1, x⟩ := N
 dsimp only at *;clear h;by_cases hl : 65536 ≤ x
 ·have d1 : decide ((65536 : Int) ≤ (x : Int)) = true := Ae zC
  have hnk : (s1.fail 10 s.p).k ≠ 0 := by unfold Rs.fail; split <;> simp_all
  rw [Am hl, An hnk]
  have dk : decide ((s1.fail 10 s.p).k = 0) = false := Ad hnk
  have HFF := hid (fun (W : World) (h : AZ W g B a s1) => BB W h 10 s.p zC)
  generalize s1.fail 10 s.p = s2 at *
  clear hl hnk;go_enter Tryz.func259, Tryz.ntmps259
  go_wp2_with fail;refine HA.out.mono ?_
  rintro r w' ⟨rfl, rfl⟩;go_wp2_with fail;refine HN.out.mono ?_
  rintro r w1 ⟨rfl, hst⟩;have HF := hid (HFF.out w1 hst.1)
  have HST := hid hst
  clear hst;go_wp2_with fail;refine HF.out.mono ?_
  rintro r w2 ⟨rfl, hst2⟩;have HG := hid (AH w2 hst2.1)
  rw [dk] at HG
  have HST2 := hid hst2
  clear hst2 dk;go_wp2_with fail;refine HG.out.mono ?_
  rintro r w3 ⟨rfl, hb3⟩;go_wp2;go_ret;exact ⟨rfl, AE.trans HST.out.2 (HST2.out.then hb3)⟩
 ·have d1 : decide ((65536 : Int) ≤ (x : Int)) = false := Ad zC
  rw [An hl]
  by_cases hk : s1.k = 0
  all_goals
   first | rw [Am hk] | rw [An hk]
   first | have dk : decide (s1.k = 0) = true := Ae hk | have dk : decide (s1.k = 0) = false := Ad hk
   clear hk;go_enter Tryz.func259, Tryz.ntmps259
   go_wp2_with fail;refine HA.out.mono ?_
   rintro r w' ⟨rfl, rfl⟩;go_wp2_with fail;refine HN.out.mono ?_
   rintro r w1 ⟨rfl, hst⟩;have HG := hid (AH w1 hst.1)
   rw [dk] at HG
   have HST := hid hst
   clear hst dk;go_wp2_with fail;refine HG.out.mono ?_
   rintro r w3 ⟨rfl, hb3⟩;go_wp2;go_ret;exact ⟨zAz, HST.out.then hb3⟩
def Rs.Er (B : List UInt8) (s : Rs) (m : Int) : Rs × List UInt8 := (s.int B m).1.take B ((s.int B m).2 : Int)
theorem Ni (w : World) {g : Nat} {B : List UInt8} {a : Option Addr} {s : Rs} (h : AZ w g B a s) (hB : B.length ≤ 1000000000000) (m : Int) (hm : -9223372036854775808 ≤ m ∧ m ≤ 9223372036854775807) : Calls Tryz.prog 237 #[.pointer (some ⟨g, 0, none⟩), .int .i64 m] w fun r w' => ∃ v, r = .returned v ∧ Ah.r (fun q => w.heap.size ≤ q ∧ q < w'.heap.size) w' [v] (s.Er B m).2 ∧ AE w g B a (s.Er B m).1 w' := by
 have HI := hid (Ef w h hB m hm)
 have hle : ((s.int B m).2 : Int) ≤ 9223372036854775807 := by have := Rs.GP (B := B) (s := s) (m := m); omega
 have hT := hid (fun (W : World) (h : AZ W g B a (s.int B m).1) => K5 W h ((s.int B m).2 : Int) hle hB)
 unfold Rs.Er;generalize (s.int B m).1.take B ((s.int B m).2 : Int) = T at *
 generalize s.int B m = N at *
 obtain ⟨s1, x⟩ := N
 obtain ⟨s2, D⟩ := T
 dsimp only at *;clear h;go_enter Tryz.func237, Tryz.ntmps237
 go_wp2_with fail;refine HI.out.mono ?_
 rintro r w1 ⟨rfl, hst⟩;have HST := hid hst
 have hs1 := hst.size
 have HT := hid (hT.out w1 hst.1)
 clear hst;go_wp2_with fail;refine HT.out.mono ?_
 rintro r w2 ⟨v, rfl, hr, hst2⟩;obtain ⟨a1, c1, hv1, hr2, _⟩ := AN hr
 simp only [Au, AO] at hv1
 subst hv1;have HR := hid hr2
 have HST2 := hid hst2
 clear hr hr2 hst2;go_wp2;go_ret;exact ⟨_, rfl, Ah.mono HR.out fun q hq => ⟨zC, hq.2⟩, AE.trans HST.out.2 HST2.out⟩
end Go.Proofs.YtlbffbkbkajciaaGreat
