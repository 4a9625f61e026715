/- Slices that a function has built itself by append, element for element: what they stand for. -/
import Derived.Test.YtlkpnpbodbokkaaDoorOwn
import Derived.Test.YtlkpnpbodbokkaaDoorData
namespace Go.Bs
open Go.RowKit
set_option linter.unusedVariables false
set_option linter.unusedSimpArgs false
section
variable {w w' : World} {α : Type}

/-- v is an own slice whose elements stand for xs, and no element reaches into the slice's own block. -/
def OwnElsAt (lo : Nat) (A : Rp α) (base : Nat) (e : TypeId) (sz : Nat) (w : World) (v : Value) (xs : List α) (cells : List (List Value)) : Prop :=
  w.ownsRow base e sz v xs.length cells.flatten ∧ cells.length = xs.length ∧ (∀ c ∈ cells, c.length = sz) ∧
    ∀ (i : Nat) cs x, cells[i]? = some cs → xs[i]? = some x → A.r (fun b => lo ≤ b ∧ b < w.heap.size ∧ v.ownBlock ≠ some b) w cs x
def OwnEls (lo : Nat) (A : Rp α) (base : Nat) (e : TypeId) (sz : Nat) (w : World) (v : Value) (xs : List α) : Prop := ∃ cells, OwnElsAt lo A base e sz w v xs cells

theorem flatten_at (sz : Nat) : ∀ (l : List (List Value)), (∀ c ∈ l, c.length = sz) → ∀ (i j : Nat) cs v, l[i]? = some cs → cs[j]? = some v → l.flatten[i * sz + j]? = some v
  | [], _, i, j, cs, v, h, _ => by simp at h
  | c :: l, hl, i, j, cs, v, h, hj => by
    have hc := hl c (List.mem_cons_self ..)
    rw [List.flatten_cons]
    cases i with
    | zero =>
      simp at h
      subst h
      have := (List.getElem?_eq_some_iff.1 hj).1
      rw [Nat.zero_mul, Nat.zero_add, List.getElem?_append_left (by omega)]
      exact hj
    | succ i =>
      simp at h
      rw [List.getElem?_append_right (by rw [hc, Nat.succ_mul]; omega), hc, show (i + 1) * sz + j - sz = i * sz + j by rw [Nat.succ_mul]; omega]
      exact flatten_at sz l (fun c h => hl c (List.mem_cons_of_mem _ h)) i j cs v h hj

theorem OwnEls.nil {lo : Nat} {A : Rp α} {base : Nat} {e : TypeId} {sz : Nat} : OwnEls lo A base e sz w (.slice none 0 0) [] :=
  ⟨[], ⟨by simp, .inl ⟨rfl, rfl⟩⟩, rfl, (by simp), fun i cs x h => by simp at h⟩

theorem OwnEls.slice {lo : Nat} {A : Rp α} {base : Nat} {e : TypeId} {sz : Nat} {v : Value} {xs : List α} (hlo : lo ≤ base) (h : OwnEls lo A base e sz w v xs) : (rSl sz A).r (fun b => lo ≤ b ∧ b < w.heap.size) w [v] xs := by
  obtain ⟨cells, hown, hlen, hsz, hA⟩ := h
  rcases hown.2 with ⟨rfl, h0⟩ | ⟨g, cap, cur, rfl, hbg, hg, hn, hc, hcur, hx⟩
  · have : xs = [] := List.eq_nil_of_length_eq_zero h0
    subst this
    exact rSl_mk rfl (Nat.le_refl _) (Nat.zero_le _) (.inl rfl)
  · refine rSl_mk rfl hn hc (.inr ⟨g, 0, rfl, ⟨Nat.le_trans hlo hbg, (Array.getElem?_eq_some_iff.1 hg).1⟩, fun i x hi => ?_⟩)
    have hi' : i < xs.length := (List.getElem?_eq_some_iff.1 hi).1
    have hic : i < cells.length := by omega
    have hcs : cells[i]? = some cells[i] := List.getElem?_eq_getElem hic
    refine ⟨cells[i], hsz _ (List.getElem_mem hic), fun j v hj => ?_, A.mono (hA i _ x hcs hi) fun b h => ⟨h.1, h.2.1⟩⟩
    have hj' : j < sz := by have := (List.getElem?_eq_some_iff.1 hj).1; rw [hsz _ (List.getElem_mem hic)] at this; exact this
    have hf := flatten_at sz cells hsz i j _ v hcs hj
    rw [Nat.zero_add, show (⟨g, i * sz + j, none⟩ : Addr) = ⟨g, i * sz + j, none⟩ from rfl, Blk.cell hg (i * sz + j)]
    have hb : i * sz + j < xs.length * sz := by
      have := Nat.mul_le_mul_right sz (show i + 1 ≤ xs.length from hi')
      rw [Nat.succ_mul] at this
      omega
    have e1 : cur[i * sz + j]? = (cur.toList.take (xs.length * sz))[i * sz + j]? := by
      rw [List.getElem?_take, if_pos hb]; simp
    rw [e1, hx]; exact hf

/-- A slice whose cells may be written, and into whose block no element reaches. -/
def rSlW {α : Type} (sz : Nat) (A : Rp α) : Rp (List α) :=
  ⟨fun S w cs xs => ∃ a c, cs = [.slice a xs.length c] ∧ xs.length ≤ c ∧ c ≤ maxLen ∧ (xs = [] ∨ ∃ b off, a = some ⟨b, off, none⟩ ∧ S b ∧ ∀ (i : Nat) x, xs[i]? = some x → ∃ cs : List Value, cs.length = sz ∧
      (∀ (j : Nat) v, cs[j]? = some v → w.cell? ⟨b, off + i * sz + j, none⟩ = some v ∧ w.frozen? ⟨b, off + i * sz + j, none⟩ = false) ∧ A.r (fun q => S q ∧ q ≠ b) w cs x),
   fun ⟨a, c, h, h1, h2, h3⟩ hk => ⟨a, c, h, h1, h2, h3.imp id fun ⟨b, off, e, hb, hr⟩ => ⟨b, off, e, hb, fun i x hi =>
     let ⟨cs, hl, hc, hA⟩ := hr i x hi
     ⟨cs, hl, fun j v hj => ⟨(World.cell?_of_block (a := ⟨b, off + i * sz + j, none⟩) (hk b hb)).trans (hc j v hj).1, (World.frozen?_of_block (a := ⟨b, off + i * sz + j, none⟩) (hk b hb)).trans (hc j v hj).2⟩, A.keep hA fun q hq => hk q hq.1⟩⟩⟩,
   fun ⟨a, c, h, h1, h2, h3⟩ hk => ⟨a, c, h, h1, h2, h3.imp id fun ⟨b, off, e, hb, hr⟩ => ⟨b, off, e, hk b hb, fun i x hi =>
     let ⟨cs, hl, hc, hA⟩ := hr i x hi
     ⟨cs, hl, hc, A.mono hA fun q hq => ⟨hk q hq.1, hq.2⟩⟩⟩⟩⟩
theorem slW_sl {sz : Nat} {A : Rp α} {S : Nat → Prop} {cs : List Value} {xs : List α} (h : (rSlW sz A).r S w cs xs) : (rSl sz A).r S w cs xs := by
  obtain ⟨a, c, h1, h2, h3, h4⟩ := h
  refine ⟨a, c, h1, h2, h3, h4.imp id fun ⟨b, off, e, hb, hr⟩ => ⟨b, off, e, hb, fun i x hi => ?_⟩⟩
  obtain ⟨cs, h5, h6, h7⟩ := hr i x hi
  exact ⟨cs, h5, fun j v hj => (h6 j v hj).1, A.mono h7 fun q hq => hq.1⟩
theorem rSl_imp {sz : Nat} {A A' : Rp α} {S : Nat → Prop} {cs : List Value} {xs : List α} (hA : ∀ S cs x, A.r S w cs x → A'.r S w cs x) (h : (rSl sz A).r S w cs xs) : (rSl sz A').r S w cs xs := by
  obtain ⟨a, c, h1, h2, h3, h4⟩ := h
  refine ⟨a, c, h1, h2, h3, h4.imp id fun ⟨b, off, e, hb, hr⟩ => ⟨b, off, e, hb, fun i x hi => ?_⟩⟩
  obtain ⟨cs, h5, h6, h7⟩ := hr i x hi
  exact ⟨cs, h5, h6, hA _ _ _ h7⟩
def rLinksW : Rp (List Link) := rSlW 2 rLink
def rEntryW : Rp Entry := rBy (fun e => (e.links, e.data)) (rPair rLinksW rBytes)
def rEntriesW : Rp (List Entry) := rSlW 2 rEntryW
theorem linksW_links {S : Nat → Prop} {cs : List Value} {x : List Link} (h : rLinksW.r S w cs x) : rLinks.r S w cs x := slW_sl h
theorem entryW_entry {S : Nat → Prop} {cs : List Value} {x : Entry} (h : rEntryW.r S w cs x) : rEntry.r S w cs x :=
  let ⟨c, d, e, h1, h2⟩ := h
  ⟨c, d, e, linksW_links h1, h2⟩
theorem entriesW_entries {S : Nat → Prop} {cs : List Value} {x : List Entry} (h : rEntriesW.r S w cs x) : rEntries.r S w cs x := rSl_imp (fun _ _ _ => entryW_entry) (slW_sl h)
theorem entryW_mk {S : Nat → Prop} {x : Entry} {v v' : Value} (h1 : rLinksW.r S w [v] x.links) (h2 : rBytes.r S w [v'] x.data) : rEntryW.r S w [v, v'] x := ⟨[_], [_], rfl, h1, h2⟩

theorem OwnEls.sliceW {lo : Nat} {A : Rp α} {base : Nat} {e : TypeId} {sz : Nat} {v : Value} {xs : List α} (hlo : lo ≤ base) (h : OwnEls lo A base e sz w v xs) : (rSlW sz A).r (fun b => lo ≤ b ∧ b < w.heap.size) w [v] xs := by
  obtain ⟨cells, hown, hlen, hsz, hA⟩ := h
  rcases hown.2 with ⟨rfl, h0⟩ | ⟨g, cap, cur, rfl, hbg, hg, hn, hc, hcur, hx⟩
  · have : xs = [] := List.eq_nil_of_length_eq_zero h0
    subst this
    exact ⟨none, 0, rfl, Nat.le_refl _, Nat.zero_le _, .inl rfl⟩
  · refine ⟨_, cap, rfl, hn, hc, .inr ⟨g, 0, rfl, ⟨Nat.le_trans hlo hbg, (Array.getElem?_eq_some_iff.1 hg).1⟩, fun i x hi => ?_⟩⟩
    have hi' : i < xs.length := (List.getElem?_eq_some_iff.1 hi).1
    have hic : i < cells.length := by omega
    have hcs : cells[i]? = some cells[i] := List.getElem?_eq_getElem hic
    refine ⟨cells[i], hsz _ (List.getElem_mem hic), fun j v hj => ⟨?_, Blk.free hg _⟩, A.mono (hA i _ x hcs hi) fun b h => ⟨⟨h.1, h.2.1⟩, fun e => h.2.2 (by rw [e]; rfl)⟩⟩
    have hj' : j < sz := by have := (List.getElem?_eq_some_iff.1 hj).1; rw [hsz _ (List.getElem_mem hic)] at this; exact this
    have hf := flatten_at sz cells hsz i j _ v hcs hj
    rw [Nat.zero_add, show (⟨g, i * sz + j, none⟩ : Addr) = ⟨g, i * sz + j, none⟩ from rfl, Blk.cell hg (i * sz + j)]
    have hb : i * sz + j < xs.length * sz := by
      have := Nat.mul_le_mul_right sz (show i + 1 ≤ xs.length from hi')
      rw [Nat.succ_mul] at this
      omega
    have e1 : cur[i * sz + j]? = (cur.toList.take (xs.length * sz))[i * sz + j]? := by
      rw [List.getElem?_take, if_pos hb]; simp
    rw [e1, hx]; exact hf

theorem OwnElsAt.push {lo : Nat} {A : Rp α} {base : Nat} {e : TypeId} {sz : Nat} {v v' : Value} {xs : List α} {news : List Value} {x : α} {cells : List (List Value)} (h : OwnElsAt lo A base e sz w v xs cells)
    (hn : news.length = sz) (hx : A.r (fun b => lo ≤ b ∧ b < w.heap.size ∧ v.ownBlock ≠ some b) w news x)
    (hown : w'.ownsRow base e sz v' (xs.length + 1) (cells.flatten ++ news)) (hg : w.grownBy w' v.ownBlock) (hat : v'.ownBlock = v.ownBlock ∨ v'.ownBlock = some w.heap.size) (hsz' : w.heap.size ≤ w'.heap.size) : OwnElsAt lo A base e sz w' v' (xs ++ [x]) (cells ++ [news]) := by
  obtain ⟨ho, hlen, hsz, hA⟩ := h
  have lift : ∀ cs y, A.r (fun b => lo ≤ b ∧ b < w.heap.size ∧ v.ownBlock ≠ some b) w cs y → A.r (fun b => lo ≤ b ∧ b < w'.heap.size ∧ v'.ownBlock ≠ some b) w' cs y := fun cs y hr =>
    A.mono (A.keep hr fun b hb => hg.block b hb.2.1 (fun e => hb.2.2 e.symm)) fun b hb => ⟨hb.1, Nat.lt_of_lt_of_le hb.2.1 hsz', fun e => by
      rcases hat with h | h
      · exact hb.2.2 (h ▸ e)
      · rw [h] at e; have := Option.some.inj e; have := hb.2.1; omega⟩
  refine ⟨?_, by simp [hlen], ?_, ?_⟩
  · rw [List.flatten_append, List.length_append]
    simpa using hown
  · intro c hc
    rcases List.mem_append.1 hc with h | h
    · exact hsz c h
    · simp at h; subst h; exact hn
  · intro i cs y hi hy
    by_cases hlt : i < xs.length
    · rw [List.getElem?_append_left (by omega)] at hi
      rw [List.getElem?_append_left hlt] at hy
      exact lift _ _ (hA i cs y hi hy)
    · have hii : i = xs.length := by
        have := (List.getElem?_eq_some_iff.1 hy).1
        simp at this
        omega
      subst hii
      rw [List.getElem?_append_right (by omega)] at hi
      rw [List.getElem?_append_right (Nat.le_refl _)] at hy
      simp [hlen] at hi
      simp at hy
      subst hi hy
      exact lift _ _ hx

theorem OwnEls.push {lo : Nat} {A : Rp α} {base : Nat} {e : TypeId} {sz : Nat} {v v' : Value} {xs : List α} {news : List Value} {x : α} {cells : List (List Value)} (h : OwnElsAt lo A base e sz w v xs cells)
    (hn : news.length = sz) (hx : A.r (fun b => lo ≤ b ∧ b < w.heap.size ∧ v.ownBlock ≠ some b) w news x)
    (hown : w'.ownsRow base e sz v' (xs.length + 1) (cells.flatten ++ news)) (hg : w.grownBy w' v.ownBlock) (hat : v'.ownBlock = v.ownBlock ∨ v'.ownBlock = some w.heap.size) (hsz' : w.heap.size ≤ w'.heap.size) : OwnEls lo A base e sz w' v' (xs ++ [x]) :=
  ⟨_, OwnElsAt.push h hn hx hown hg hat hsz'⟩

/-- A world that has only grown keeps it. -/
theorem OwnEls.below {lo : Nat} {A : Rp α} {base : Nat} {e : TypeId} {sz : Nat} {v : Value} {xs : List α} (h : OwnEls lo A base e sz w v xs) (hb : Below w.heap.size w w') : OwnEls lo A base e sz w' v xs := by
  obtain ⟨cells, ho, hlen, hsz, hA⟩ := h
  refine ⟨cells, ⟨ho.1, ?_⟩, hlen, hsz, fun i cs x hi hx => A.mono (A.keep (hA i cs x hi hx) fun b h => hb.block b h.2.1) fun b h => ⟨h.1, Nat.lt_of_lt_of_le h.2.1 hb.size, h.2.2⟩⟩
  rcases ho.2 with h0 | ⟨g, cap, cur, h1, h2, h3, h4⟩
  · exact .inl h0
  · exact .inr ⟨g, cap, cur, h1, h2, by rw [hb.block g (Array.getElem?_eq_some_iff.1 h3).1]; exact h3, h4⟩

theorem OwnElsAt.below {lo : Nat} {A : Rp α} {base : Nat} {e : TypeId} {sz : Nat} {v : Value} {xs : List α} {cells : List (List Value)} (h : OwnElsAt lo A base e sz w v xs cells) (hb : Below w.heap.size w w') : OwnElsAt lo A base e sz w' v xs cells := by
  obtain ⟨ho, hlen, hsz, hA⟩ := h
  refine ⟨⟨ho.1, ?_⟩, hlen, hsz, fun i cs x hi hx => A.mono (A.keep (hA i cs x hi hx) fun b h => hb.block b h.2.1) fun b h => ⟨h.1, Nat.lt_of_lt_of_le h.2.1 hb.size, h.2.2⟩⟩
  rcases ho.2 with h0 | ⟨g, cap, cur, h1, h2, h3, h4⟩
  · exact .inl h0
  · exact .inr ⟨g, cap, cur, h1, h2, by rw [hb.block g (Array.getElem?_eq_some_iff.1 h3).1]; exact h3, h4⟩

theorem own_empty {base : Nat} {e : TypeId} {size : Nat} (W : World) (hb : base ≤ W.heap.size) {g : Nat} (hg : g = W.heap.size) : (W.alloc (.cells #[] e)).ownsRow base e size (.slice (some ⟨g, 0, none⟩) 0 0) 0 [] := by
  subst hg
  exact ⟨by simp, .inr ⟨_, 0, #[], rfl, hb, (MapKept.heap_alloc W _).1, Nat.le_refl _, Nat.zero_le _, by simp, by simp⟩⟩
theorem own_empty_blk {base : Nat} {e : TypeId} {size : Nat} {W : World} {g : Nat} (h : Blk W g e #[]) (hb : base ≤ g) : W.ownsRow base e size (.slice (some ⟨g, 0, none⟩) 0 0) 0 [] :=
  ⟨by simp, .inr ⟨g, 0, #[], rfl, hb, h, Nat.le_refl _, Nat.zero_le _, by simp, by simp⟩⟩
theorem own_form {base : Nat} {e : TypeId} {size : Nat} {v : Value} {n : Nat} {xs : List Value} (h : w.ownsRow base e size v n xs) : ∃ a c, v = .slice a n c := by
  rcases h.2 with ⟨rfl, rfl⟩ | ⟨g, cap, cur, rfl, _⟩
  · exact ⟨_, _, rfl⟩
  · exact ⟨_, _, rfl⟩
theorem own_at {base : Nat} {e : TypeId} {size : Nat} {v : Value} {n : Nat} {xs : List Value} (h : w.ownsRow base e size v (n + 1) xs) : ∃ g c, v = .slice (some ⟨g, 0, none⟩) (n + 1) c := by
  rcases h.2 with ⟨_, h0⟩ | ⟨g, cap, cur, rfl, _⟩
  · cases h0
  · exact ⟨_, _, rfl⟩
theorem own_one {base : Nat} {e : TypeId} {v : Value} {A : Rp α} (f : α → Value) {l : List α} {n : Nat} (hf : ∀ (S : Nat → Prop) x, x ∈ l → A.r S w [f x] x) (hn : n = l.length) (h : w.ownsRow base e 1 v n (l.map f)) : (rSl 1 A).r (fun b => base ≤ b ∧ b < w.heap.size) w [v] l := by
  subst hn
  rcases h.2 with ⟨rfl, h0⟩ | ⟨g, cap, cur, rfl, hbg, hg, hn, hc, hcur, hx⟩
  · have : l = [] := List.eq_nil_of_length_eq_zero h0
    subst this
    exact rSl_mk rfl (Nat.le_refl _) (Nat.zero_le _) (.inl rfl)
  · refine rSl_mk rfl hn hc (.inr ⟨g, 0, rfl, ⟨hbg, Blk.lt hg⟩, fun i x hi => ⟨[f x], rfl, fun j v hj => ?_, hf _ x (List.mem_of_getElem? hi)⟩⟩)
    have hj0 : j = 0 := by
      rcases j with _ | j
      · rfl
      · simp at hj
    subst hj0
    simp at hj
    subst hj
    have hi' : i < l.length := (List.getElem?_eq_some_iff.1 hi).1
    rw [Nat.zero_add, Nat.mul_one, Nat.add_zero, Blk.cell hg i]
    have e1 : cur[i]? = (cur.toList.take (l.length * 1))[i]? := by
      rw [List.getElem?_take, if_pos (by omega)]; simp
    rw [e1, hx, List.getElem?_map, hi]; rfl

theorem src_one {S : Nat → Prop} {a : Option Addr} {n c : Nat} {A : Rp α} (f : α → Value) {l : List α} (hf : ∀ (S : Nat → Prop) cs x, A.r S w cs x → cs = [f x]) (h : (rSl 1 A).r S w [.slice a n c] l) : Src w a l.length 1 (l.map f) := by
  refine ⟨by simp, ?_⟩
  rcases Nat.eq_zero_or_pos l.length with h0 | h0
  · exact .inl h0
  · right
    obtain ⟨b, o, e, _⟩ := sl_at h (i := 0) h0
    refine ⟨b, o, e, fun j u hu => ?_⟩
    have hj : j < l.length := by
      have := (List.getElem?_eq_some_iff.1 hu).1
      simpa using this
    obtain ⟨b', o', e', _, cs, _, hc, hA⟩ := sl_at h hj
    rw [e] at e'
    simp at e'
    obtain ⟨rfl, rfl⟩ := e'
    have hcs := hf _ _ _ hA
    subst hcs
    have := hc 0 _ rfl
    rw [Nat.mul_one, Nat.add_zero] at this
    simp only [List.getElem?_map, List.getElem?_eq_getElem hj, Option.map_some, Option.some.injEq] at hu
    rw [← hu]; exact this
def u64Cells (l : List Int) : List Value := l.map fun n => .int .u64 n
theorem u64Cells_one (l : List Int) : ∀ u ∈ u64Cells l, u.oneCell' = true := by
  intro u hu
  obtain ⟨b, _, rfl⟩ := List.mem_map.1 hu
  rfl
theorem src_u64s {S : Nat → Prop} {a : Option Addr} {n c : Nat} {l : List Int} (h : rU64s.r S w [.slice a n c] l) : Src w a l.length 1 (u64Cells l) := src_one (A := rInt .u64) (fun n => .int .u64 n) (fun _ _ _ h => h.1) h
theorem own_ints64 {base : Nat} {e : TypeId} {v : Value} {l : List Int} {n : Nat} (hw : ∀ x ∈ l, 0 ≤ x ∧ x ≤ 18446744073709551615) (hn : n = l.length) (h : w.ownsRow base e 1 v n (u64Cells l)) : rU64s.r (fun b => base ≤ b ∧ b < w.heap.size) w [v] l :=
  own_one _ (fun _ x hx => ⟨rfl, u64_wf (hw x hx)⟩) hn h
theorem own_bytes2 {base : Nat} {e : TypeId} {v : Value} {l : List UInt8} {n : Nat} (hn : n = l.length) (h : w.ownsRow base e 1 v n (byteCells l)) : rBytes.r (fun b => base ≤ b ∧ b < w.heap.size) w [v] l :=
  own_one _ (fun _ x _ => rfl) hn h

theorem own_below {base : Nat} {e : TypeId} {size : Nat} {v : Value} {n : Nat} {xs : List Value} (h : w.ownsRow base e size v n xs) (hb : Below w.heap.size w w') : w'.ownsRow base e size v n xs := by
  refine ⟨h.1, ?_⟩
  rcases h.2 with h0 | ⟨g, cap, cur, h1, h2, h3, h4⟩
  · exact .inl h0
  · exact .inr ⟨g, cap, cur, h1, h2, by rw [hb.block g (Array.getElem?_eq_some_iff.1 h3).1]; exact h3, h4⟩

theorem step_append_src {P : Program} {ops : Array Oper} {o : Oper} {a : Act} {K : Act → World → Prop} {Q : Exit → Act → World → Prop} {E : Prop} (hgd : o.guard = none) (s x : Operand) (t : TypeId)
    (ho : o.op = .call { callee := .builtin .append, args := #[s, x], argTypes := #[t, t] })
    (base : Nat) (e : TypeId) (i : TypeInfo) (z : Value) (size bytes : Nat) (ht : P.underlying t = some (.slice e)) (hi : P.info? e = some i) (hz : i.zero = some z)
    (hsize : i.size = size) (hby : i.bytes = bytes) (hzs : z.cells.size = size) (hsz : 0 < size)
    (v : Value) (n : Nat) (xs : List Value) (hs : a.eval s = v) (hown : w.ownsRow base e size v n xs)
    (A : Option Addr) (m c : Nat) (news : List Value) (hx : a.eval x = .slice A m c) (hsrc : Src w A m size news) (h1 : ∀ u ∈ news, u.oneCell' = true)
    (h63 : n + m ≤ maxLen) (hbytes : (n + m) * bytes ≤ 140737488355328) (hbase : base ≤ w.heap.size)
    (h : ∀ a' c' w', w'.ownsRow base e size (.slice a' (n + m) c') (n + m) (xs ++ news) → w.grownBy w' v.ownBlock → ((Value.slice a' (n + m) c').ownBlock = v.ownBlock ∨ (Value.slice a' (n + m) c').ownBlock = some w.heap.size) → K (a.put o.dst (.slice a' (n + m) c')) w') :
    if Region.wanted o (yielded ops a.tmps) = true then Oper.wp P o a w K Q else E := by
  have hw : Region.wanted o (yielded ops a.tmps) = true := by simp [Region.wanted, hgd]
  rw [if_pos hw]
  obtain ⟨v', w', hrun, h2, h3, h4⟩ := run_append_src (P := P) base t o.type e i z size bytes ht hi hz hsize hby hzs hsz v n xs hown A m c news hsrc h1 h63 hbytes hbase
  obtain ⟨a', c', rfl⟩ := own_form h2
  unfold Oper.wp execOp
  simp only [ho, resolve, invoke, builtin, Sem.run_bind, Sem.run_pure, Result.andThen_ok, List.map_toArray, List.map_cons, List.map_nil, hs, hx, hrun]
  exact h a' c' w' h2 h3 h4
end
end Go.Bs
