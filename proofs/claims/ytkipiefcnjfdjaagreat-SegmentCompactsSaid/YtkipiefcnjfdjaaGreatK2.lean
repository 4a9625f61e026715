/- Needed by segmentCompacts_walk, part 2: texts put together by shake.py; no condition. -/
import Derived.Test.YtkipiefcnjfdjaaGreatF5
import Derived.Deep.Cut
import Derived.Deep.CutRange
import Derived.Test.YtkipiefcnjfdjaaGreatK1
import Derived.BigRegion
namespace Go.Bs
open Go.RowKit
set_option linter.unusedVariables false
theorem OwnElsF.setAt2 {α : Type} {w : World} {F : Nat → Prop} {A : Rp α} {base : Nat} {e : TypeId} {sz : Nat} {g n c k : Nat} {xs : List α} {x' : α} {cells : List (List Value)} {cs : List Value} {j : Nat} {u : Value}
    (h : OwnElsF F A base e sz w (.slice (some ⟨g, 0, none⟩) n c) xs cells) (hk : k < xs.length) (hcs : cells[k]? = some cs) (hj : j < sz)
    (hx : A.r (fun b => F b ∧ g ≠ b) w (cs.set j u) x') :
    OwnElsF F A base e sz (w.setCell ⟨g, k * sz + j, none⟩ u) (.slice (some ⟨g, 0, none⟩) n c) (xs.set k x') (cells.set k (cs.set j u)) := by
  obtain ⟨ho, hlen, hsz, hA⟩ := h
  have hkc : k < cells.length := by omega
  have hck : cells[k] = cs := by rw [List.getElem?_eq_getElem hkc] at hcs; exact Option.some.inj hcs
  have hcl : cs.length = sz := by rw [← hck]; exact hsz _ (List.getElem_mem hkc)
  have hsz2 : ∀ c' ∈ cells.set k (cs.set j u), c'.length = sz := by
    intro c' hc'
    rcases List.mem_or_eq_of_mem_set hc' with h | h
    · exact hsz c' h
    · subst h; simpa using hcl
  have hbnd : k * sz + j < xs.length * sz := by
    have := Nat.mul_le_mul_right sz (show k + 1 ≤ xs.length from hk)
    rw [Nat.succ_mul] at this
    omega
  have hfl : (cells.set k (cs.set j u)).flatten = cells.flatten.set (k * sz + j) u := by
    clear ho hA hsz2 hbnd hlen hck hkc hk
    induction cells generalizing k with
    | nil => simp at hcs
    | cons c0 cells ih =>
      have h0 := hsz c0 (by simp)
      cases k with
      | zero =>
        simp at hcs
        subst hcs
        simp only [List.set_cons_zero, List.flatten_cons, Nat.zero_mul, Nat.zero_add]
        rw [List.set_append, if_pos (by omega)]
      | succ k =>
        simp only [List.getElem?_cons_succ] at hcs
        simp only [List.set_cons_succ, List.flatten_cons]
        rw [ih hcs (fun c hc => hsz c (by simp [hc])), List.set_append, if_neg (by rw [h0, Nat.succ_mul]; omega), h0, show (k + 1) * sz + j - sz = k * sz + j by rw [Nat.succ_mul]; omega]
  refine ⟨⟨by rw [flatten_len sz _ hsz2]; simp [hlen], ?_⟩, by simp [hlen], hsz2, ?_⟩
  · rcases ho.2 with ⟨h0, _⟩ | ⟨g', cap, cur, h1, h2, h3, h4, h5, h6, h7⟩
    · cases h0
    · simp at h1
      obtain ⟨rfl, rfl, rfl⟩ := h1
      refine .inr ⟨g, c, cur.setIfInBounds (k * sz + j) u, by simp, h2, ?_, by simpa using h4, h5, by simpa using h6, ?_⟩
      · exact Blk.set h3 _ _
      · rw [hfl, ← h7, List.length_set]
        simp only [Array.toList_setIfInBounds]
        rw [List.take_set]
  · intro i cs' y hi hy
    have keep : ∀ b, b ≠ g → (w.setCell ⟨g, k * sz + j, none⟩ u).heap[b]? = w.heap[b]? := fun b hb => Below.heap_setCell _ _ _ _ hb
    by_cases hik : k = i
    · subst hik
      rw [List.getElem?_set_self (by omega)] at hi
      rw [List.getElem?_set_self (by omega)] at hy
      simp only [Option.some.injEq] at hi hy
      subst hi hy
      exact A.mono (A.keep hx fun b hb => keep b fun e => hb.2 e.symm) fun b hb => ⟨hb.1, fun e => hb.2 (by simpa [Value.ownBlock] using e)⟩
    · rw [List.getElem?_set_ne hik] at hi hy
      have := hA i cs' y hi hy
      exact A.keep this fun b hb => keep b fun e => hb.2 (by rw [e]; rfl)
/-- The last batch but for its entries is as it was. -/
theorem OwnElsF.setEntries {w : World} {F : Nat → Prop} {base : Nat} {e : TypeId} {g n c k : Nat} {xs : List Batch} {y : Batch} {cells : List (List Value)} {v : Option Addr} {p cc : Nat}
    (h : OwnElsF F rBatch base e 3 w (.slice (some ⟨g, 0, none⟩) n c) xs cells) (hk : k < xs.length) (h1 : y.epoch = xs[k].epoch) (h2 : y.base = xs[k].base)
    (hx : rBatch.r (fun b => F b ∧ g ≠ b) w [.int .u64 y.epoch, .int .u64 y.base, .slice v p cc] y) :
    ∃ cells', OwnElsF F rBatch base e 3 (((w.setCell ⟨g, k * 3, none⟩ (.int .u64 y.epoch)).setCell ⟨g, k * 3 + 1, none⟩ (.int .u64 y.base)).setCell ⟨g, k * 3 + 2, none⟩ (.slice v p cc)) (.slice (some ⟨g, 0, none⟩) n c) (xs.set k y) cells' := by
  obtain ⟨ho, hlen, hsz, hA⟩ := h
  have hkc : k < cells.length := by omega
  have hck : cells[k]? = some cells[k] := List.getElem?_eq_getElem hkc
  obtain ⟨a0, c0, hcs, b0, b1, hd⟩ := batch_cells (hA k cells[k] xs[k] hck (List.getElem?_eq_getElem hk))
  rw [hcs] at hck
  have hel := hA k _ xs[k] (by rw [List.getElem?_eq_getElem hkc]) (List.getElem?_eq_getElem hk)
  rw [hcs] at hel
  have hel' : rBatch.r (fun b => F b ∧ g ≠ b) w [.int .u64 xs[k].epoch, .int .u64 xs[k].base, .slice a0 xs[k].entries.length c0] xs[k] := rBatch.mono hel fun b hb => ⟨hb.1, fun e => hb.2 (by rw [e]; rfl)⟩
  have keep : ∀ (W : World) (o : Nat) (u : Value) b, g ≠ b → (W.setCell ⟨g, o, none⟩ u).heap[b]? = W.heap[b]? := fun W o u b hb => Below.heap_setCell _ _ _ _ (fun e => hb e.symm)
  have s1 := OwnElsF.setAt2 (j := 0) (u := .int .u64 y.epoch) (x' := xs[k]) ⟨ho, hlen, hsz, hA⟩ hk hck (by decide) (by rw [h1]; exact hel')
  have e1 : xs.set k xs[k] = xs := List.set_getElem_self hk
  rw [e1] at s1
  have s2 := OwnElsF.setAt2 (k := k) (j := 1) (u := .int .u64 y.base) (x' := xs[k]) (cs := [.int .u64 y.epoch, .int .u64 xs[k].base, .slice a0 xs[k].entries.length c0]) s1 hk (by rw [List.getElem?_set_self hkc]; rfl) (by decide) (by rw [h2, h1]; exact rBatch.keep hel' fun b hb => keep _ _ _ b hb.2)
  rw [e1] at s2
  have s3 := OwnElsF.setAt2 (k := k) (j := 2) (u := .slice v p cc) (x' := y) (cs := [.int .u64 y.epoch, .int .u64 y.base, .slice a0 xs[k].entries.length c0]) s2 hk (by rw [List.getElem?_set_self (by simpa using hkc)]; rfl) (by decide) (rBatch.keep hx fun b hb => (keep _ _ _ b hb.2).trans (keep _ _ _ b hb.2))
  exact ⟨_, s3⟩
end Go.Bs
namespace Go.Proofs.YtkipiefcnjfdjaaGreat
open Go.RowKit Go.Bs
set_option linter.unusedVariables false
set_option linter.unusedSimpArgs false

theorem chain_take {e : Int} : ∀ (l : List Batch) (p : Option Batch) (k : Nat), chainR e p l = true → chainR e p (l.take k) = true
  | [], _, k, _ => by simp [chainR]
  | b :: l, p, 0, _ => by simp [chainR]
  | b :: l, p, k + 1, h => by
    simp only [List.take_succ_cons, chainR, Bool.and_eq_true] at h ⊢
    exact ⟨h.1, h.2.1, chain_take l (some b) k h.2.2⟩
theorem compL_take {ep : Int} {l : List Batch} (h : segR ⟨ep, l⟩ = true) (k : Nat) : ∀ b ∈ compL (l.take k), batchR b = true := by
  simp only [segR, Bool.and_eq_true, decide_eq_true_eq] at h
  have h1 := CInv.fold (l.take k) none [] ⟨rfl, trivial, fun i hi => by simp at hi⟩ (chain_take l none k h.2.2)
  exact chainR_mem h1.1

theorem own_at {W : World} {lo : Nat} {e : TypeId} {sz n c : Nat} {a : Option Addr} {xs : List Value} (h : W.ownsRow lo e sz (.slice a n c) n xs) (hn : 0 < n) : ∃ g, a = some ⟨g, 0, none⟩ ∧ lo ≤ g ∧ g < W.heap.size ∧ ∀ j, W.frozen? ⟨g, j, none⟩ = false := by
  rcases h.2 with ⟨_, h0⟩ | ⟨g, cap, cur, hv, hb, hg, _⟩
  · omega
  · simp only [Value.slice.injEq] at hv
    exact ⟨g, hv.1, hb, Blk.lt hg, fun j => Blk.free hg j⟩
/-- The memory while a segment is compacted. -/
structure CmI (w W : World) (T0 : Nat) (ep : Int) (a : Option Addr) (n c : Nat) (M : List Batch) (aM : Option Addr) (cM : Nat) : Prop where
  below : Below w.heap.size w W
  g : Blk W w.heap.size 62 #[.int .u64 ep, .slice a n c]
  r : Blk W (w.heap.size + 1) 62 #[.int .u64 0, .slice none 0 0]
  t : Blk W T0 62 #[.int .u64 ep, .slice aM M.length cM]
  own : OwnEls (T0 + 1) rBatch (T0 + 1) 25 3 W (.slice aM M.length cM) M
  lo : w.heap.size + 2 ≤ T0
section
variable {w W : World} {T0 : Nat} {ep : Int} {a : Option Addr} {n c : Nat} {M : List Batch} {aM : Option Addr} {cM : Nat}
theorem CmI.later (h : CmI w W T0 ep a n c M aM cM) {W' : World} (hb : Below W.heap.size W W') : CmI w W' T0 ep a n c M aM cM :=
  ⟨below_then hb h.below, h.g.later hb, h.r.later hb, h.t.later hb, OwnEls.below h.own hb, h.lo⟩
theorem CmI.row (h : CmI w W T0 ep a n c M aM cM) : ∀ g, (Value.slice aM M.length cM).ownBlock = some g → T0 + 1 ≤ g ∧ g < W.heap.size := by
  obtain ⟨cells, OA⟩ := h.own
  exact own_lt OA.1
/-- One batch more. -/
theorem CmI.push (h : CmI w W T0 ep a n c M aM cM) {cells : List (List Value)} (hc : OwnElsAt (T0 + 1) rBatch (T0 + 1) 25 3 W (.slice aM M.length cM) M cells) {w8 : World} {a8 : Option Addr} {c8 : Nat} {z : Batch} {zs : List Value} (hl : zs.length = 3)
    (hz : rBatch.r (fun q => (T0 + 1 ≤ q ∧ q < W.heap.size) ∧ (Value.slice aM M.length cM).ownBlock ≠ some q) W zs z)
    (hown : w8.ownsRow (T0 + 1) 25 3 (.slice a8 (M.length + 1) c8) (M.length + 1) (cells.flatten ++ zs)) (hg : W.grownBy w8 (Value.slice aM M.length cM).ownBlock)
    (hat : (Value.slice a8 (M.length + 1) c8).ownBlock = (Value.slice aM M.length cM).ownBlock ∨ (Value.slice a8 (M.length + 1) c8).ownBlock = some W.heap.size) :
    CmI w (w8.setCell ⟨T0, 1, none⟩ (.slice a8 (M.length + 1) c8)) T0 ep a n c (M ++ [z]) a8 c8 := by
  have hp := OwnElsF.push (OwnElsF.of hc) (fun q hq => hq.2) hl hz hown hg hat
  have hlo := h.lo
  have hr := h.row
  have hbs := h.below.size
  have hlen : (M ++ [z]).length = M.length + 1 := by simp
  refine ⟨(h.below.grown hg hbs (fun g e => by have := hr g e; omega)).setCell (by dsimp only; omega) _, (h.g.grown hg (fun e => by have := hr _ e.symm; omega)).far (by dsimp only; omega) _, (h.r.grown hg (fun e => by have := hr _ e.symm; omega)).far (by dsimp only; omega) _, ?_, ?_, hlo⟩
  · rw [hlen]
    exact (h.t.grown hg (fun e => by have := hr _ e.symm; omega)).set 1 _
  · have hk : OwnElsF (fun q => T0 + 1 ≤ q ∧ q < W.heap.size) rBatch (T0 + 1) 25 3 (w8.setCell ⟨T0, 1, none⟩ (.slice a8 (M.length + 1) c8)) (.slice a8 (M.length + 1) c8) (M ++ [z]) (cells ++ [zs]) :=
      hp.keep (fun q hq => Below.heap_setCell _ _ _ _ (by dsimp only; omega)) (fun g e => Below.heap_setCell _ _ _ _ (by have := own_lt hown g e; dsimp only; omega))
    rw [hlen]
    exact ⟨_, hk.to fun q hq => ⟨hq.1, by have := hg.size; simp; omega⟩⟩
/-- The last batch grows. -/
theorem CmI.grow (h : CmI w W T0 ep a n c M aM cM) {L : List Batch} {x y : Batch} (hM : M = L ++ [x]) (h1 : y.epoch = x.epoch) (h2 : y.base = x.base) {v : Option Addr} {p cc g : Nat} (hg : aM = some ⟨g, 0, none⟩)
    (hx : rBatch.r (fun q => (T0 + 1 ≤ q ∧ q < W.heap.size) ∧ g ≠ q) W [.int .u64 y.epoch, .int .u64 y.base, .slice v p cc] y) :
    CmI w (((W.setCell ⟨g, L.length * 3, none⟩ (.int .u64 y.epoch)).setCell ⟨g, L.length * 3 + 1, none⟩ (.int .u64 y.base)).setCell ⟨g, L.length * 3 + 2, none⟩ (.slice v p cc)) T0 ep a n c (L ++ [y]) aM cM := by
  subst hM hg
  have hr := h.row g rfl
  have hlo := h.lo
  obtain ⟨cells, OA⟩ := h.own
  obtain ⟨cells', OF⟩ := OwnElsF.setEntries (k := L.length) (y := y) (OwnElsF.of OA) (by simp) (by simpa using h1) (by simpa using h2) hx
  have e : (L ++ [x]).set L.length y = L ++ [y] := by rw [List.set_append, if_neg (by omega), Nat.sub_self]; rfl
  have el : (L ++ [x]).length = (L ++ [y]).length := by simp
  rw [e, el] at OF
  refine ⟨((h.below.setCell (by dsimp only; omega) _).setCell (by dsimp only; omega) _).setCell (by dsimp only; omega) _, ((h.g.far (by dsimp only; omega) _).far (by dsimp only; omega) _).far (by dsimp only; omega) _, ((h.r.far (by dsimp only; omega) _).far (by dsimp only; omega) _).far (by dsimp only; omega) _, ?_, ⟨_, OF.to fun q hq => ⟨hq.1, by have := hq.2; simpa using this⟩⟩, hlo⟩
  have ht := h.t
  rw [el] at ht
  exact ((ht.far (by dsimp only; omega) _).far (by dsimp only; omega) _).far (by dsimp only; omega) _
end

set_option maxRecDepth 100000 in
set_option maxHeartbeats 6400000 in
theorem segment_compact (ep : Int) (l : List Batch) (a : Option Addr) (n c : Nat) (w : World) (h0 : 0 ≤ ep ∧ ep ≤ 18446744073709551615) (hl : rBatches.r (· < w.heap.size) w [.slice a n c] l) (hfair : ∀ x ∈ l, Fair x.entries) :
    Calls Tryz.prog 46 #[.agg #[.int .u64 ep, .slice a n c]] w fun r w' => ∃ v e', r = .returned (.tuple #[.agg #[.int .u64 e', v], .int .i64 (if segR ⟨ep, l⟩ = true then 0 else 3)]) ∧ (e' = if segR ⟨ep, l⟩ = true then ep else 0) ∧ rBatches.r (fun q => w.heap.size ≤ q ∧ q < w'.heap.size) w' [v] (if segR ⟨ep, l⟩ = true then compL l else []) ∧ Below w.heap.size w w' := by
  obtain ⟨rfl, hm, _, _⟩ := sl_len hl
  obtain ⟨i0, hi, hz0, hz1, hz2⟩ := info_parts infoBatch
  have HR := hid (fun (W : World) (hW : Below w.heap.size w W) => segment_right ep l a _ c W h0 (lift hl hW) hfair)
  have HL := hid hl
  have hbW0 : Below w.heap.size w ((w.alloc (.cells #[.int .u64 ep, .slice a l.length c] 62)).alloc (.cells #[.int .u64 0, .slice none 0 0] 62)) := below_alloc (below_alloc (Below.refl _ _) _) _
  have HG0 := hid ((Blk.new w 62 #[.int .u64 ep, .slice a l.length c]).alloc (.cells #[.int .u64 0, .slice none 0 0] 62))
  have HR0 := hid (Blk.new1 w (.cells #[.int .u64 ep, .slice a l.length c] 62) 62 #[.int .u64 0, .slice none 0 0])
  have HBW := hid hbW0
  clear hl hbW0
  cases hs : segR ⟨ep, l⟩
  · rw [hs] at HR
    simp only [Bool.false_eq_true, if_false]
    clear hs
    go_enter Tryz.func46, Tryz.ntmps46
    go_wp2_with fail
    refine (HR.out _ HBW.out).mono ?_
    rintro r w1 ⟨rfl, hb1⟩
    have HR1 := hid (HR0.out.later hb1)
    have hbw1 := below_then hb1 HBW.out
    have r0 : w1.cell? ⟨w.heap.size + 1, 0, none⟩ = some (.int .u64 0) := HR1.out.cell 0
    have r1 : w1.cell? ⟨w.heap.size + 1, 1, none⟩ = some (.slice none 0 0) := HR1.out.cell 1
    have f0 : w1.frozen? ⟨w.heap.size + 1, 0, none⟩ = false := HR1.out.free 0
    have f1 : w1.frozen? ⟨w.heap.size + 1, 1, none⟩ = false := HR1.out.free 1
    have hrz : w.heap.size + 1 < w1.heap.size := HR1.out.lt
    go_wp2
    refine bodyPost_ret (v := .tuple #[.agg #[.int .u64 0, .slice none 0 0], .int .i64 3]) (by simp [results, Tryz.results46, go_sem, World.cell?_setCell_far, r0, r1]) rfl ⟨_, _, rfl, rfl, rSl_mk (xs := []) rfl (Nat.le_refl _) (Nat.zero_le _) (.inl rfl), ?_⟩
    exact (hbw1.setCell (by dsimp only; omega) _).setCell (by dsimp only; omega) _
  · obtain ⟨_, hl16, hall⟩ := segR_facts hs
    dsimp only at hl16 hall
    rw [hs] at HR
    simp only [eq_self, if_true]
    have HALL := hid hall
    have HS := hid hs
    clear hs hall
    go_enter Tryz.func46, Tryz.ntmps46
    go_wp2_with fail
    refine (HR.out _ HBW.out).mono ?_
    rintro r w1 ⟨rfl, hb1⟩
    have HG1 := hid (HG0.out.later hb1)
    have HR1 := hid (HR0.out.later hb1)
    have HB1 := hid (below_then hb1 HBW.out)
    have g0 : w1.cell? ⟨w.heap.size, 0, none⟩ = some (.int .u64 ep) := HG1.out.cell 0
    have g1 : w1.cell? ⟨w.heap.size, 1, none⟩ = some (.slice a l.length c) := HG1.out.cell 1
    have hz1' : w.heap.size + 1 < w1.heap.size := HR1.out.lt
    have hz0' : w.heap.size < w1.heap.size := by omega
    clear hb1
    go_wp2_with fail
    have hci : CmI w (w1.alloc (.cells #[.int .u64 ep, .slice none 0 0] 62)) w1.heap.size ep a l.length c (compL (l.take 0)) none 0 :=
      ⟨below_alloc HB1.out _, HG1.out.alloc _, HR1.out.alloc _, Blk.new w1 _ _, OwnEls.nil, by omega⟩
    refine wp_world (fun W => CmI w W w1.heap.size ep a l.length c (compL (l.take 0)) none 0) hci ?_
    intro W hci
    have HCI := hid hci
    clear hci g0 g1
    go_loopw [20] (fun i wr => ∃ (k : Nat) (aM : Option Addr) (cM : Nat), k ≤ l.length ∧ i = .int .i64 k ∧ CmI w wr w1.heap.size ep a l.length c (compL (l.take k)) aM cM) (fun i _ => l.length - (intOf i).toNat)
    case atStart => exact ⟨0, none, 0, Nat.zero_le _, rfl, HCI.out⟩
    case round =>
      obtain ⟨k, aM, cM, hk, rfl, hci⟩ := hrel
      by_cases hlt : k < l.length
      · obtain ⟨b, o, hA, hbb, a2, c2, X0, X1, X2, n0, n1, hd⟩ := batch_at HL.out hlt
        subst hA
        have x0 := (hci.below.cell (p := ⟨b, o + k * 3, none⟩) hbb).trans X0
        have x1 := (hci.below.cell (p := ⟨b, o + k * 3 + 1, none⟩) hbb).trans X1
        have x2 := (hci.below.cell (p := ⟨b, o + k * 3 + 2, none⟩) hbb).trans X2
        clear X0 X1 X2
        have HST := hid (compL_step l k hlt)
        have HZR := hid (HALL.out _ (List.getElem_mem hlt))
        have HMR := hid (compL_take HS.out k)
        have hml : (compL (l.take k)).length ≤ 16 := by have := compL_len (l.take k); rw [List.length_take] at this; omega
        have HD := hid hd
        have hzl := (batchR_facts HZR.out).2.2.2.1
        have i1 : (k : Int) < (l.length : Int) := by omega
        generalize l[k] = z at *
        generalize compL (l.take k) = M at *
        have HC6 := hid (hci.later (show Below wr.heap.size wr (wr.alloc (.cells #[.int .u64 z.epoch, .int .u64 z.base, .slice a2 z.entries.length c2] 25)) from below_alloc (Below.refl _ _) _))
        have HBZ := hid (Blk.new wr 25 #[.int .u64 z.epoch, .int .u64 z.base, .slice a2 z.entries.length c2])
        have T1 : wr.cell? ⟨w1.heap.size, 1, none⟩ = some (.slice aM M.length cM) := hci.t.cell 1
        have hT1 : w1.heap.size < wr.heap.size := hci.t.lt
        have hTl := hci.lo
        have HNR := hid (hci.row)
        have HNZ : Hid ((Value.slice aM M.length cM).ownBlock ≠ some wr.heap.size) := hid (fun e => by have := (HNR.out _ e).2; omega)
        clear hd hci
        go_upto_if 28 with (fail)
        have hW6 : wr.heap.size < (wr.alloc (.cells #[.int .u64 z.epoch, .int .u64 z.base, .slice a2 z.entries.length c2] 25)).heap.size := by simp
        generalize wr.alloc (.cells #[.int .u64 z.epoch, .int .u64 z.base, .slice a2 z.entries.length c2] 25) = W6 at *
        clear T1 x0 x1 x2
        go_cut [] from 21 to 55 (fun V => CmI w V w1.heap.size ep (some ⟨b, o, none⟩) l.length c M aM cM ∧ Blk V wr.heap.size 25 #[.int .u64 z.epoch, .int .u64 z.base, .slice a2 z.entries.length c2] ∧ Hid ((Value.slice aM M.length cM).ownBlock ≠ some wr.heap.size) ∧ Hid (compS M z = M ++ [z]))
        case first =>
          rcases snoc_cases M with hM0 | ⟨L, x, hMx⟩
          · have hd : decide (0 < M.length) = false := by rw [hM0]; rfl
            rw [hd]
            have HM0 := hid hM0
            clear hd hM0
            go_wp2_with fail
            go_meet
            case rel => exact ⟨HC6.out, HBZ.out, HNZ, hid (by rw [HM0.out]; rfl)⟩
          · have hml2 : M.length = L.length + 1 := by rw [hMx]; simp
            have hd : decide (0 < M.length) = true := decide_eq_true (by omega)
            rw [hd]
            have HMX := hid hMx
            have HXR := hid (HMR.out x (by rw [hMx]; simp))
            obtain ⟨gM, oM, hgA, hgS, xa, xc, Y0, Y1, Y2, xn0, xn1, hxd⟩ := batch_at (OwnEls.slice (Nat.le_refl _) HC6.out.own) (i := L.length) (by omega)
            have hxe : M[L.length]'(by omega) = x := by simp [hMx]
            rw [hxe] at Y0 Y1 Y2 xn0 xn1 hxd
            obtain ⟨cells, OA⟩ := HC6.out.own
            obtain ⟨gM', hgA', hgl, hgu, hgf⟩ := own_at OA.1 (by omega)
            rw [hgA'] at hgA
            simp only [Option.some.injEq, Addr.mk.injEq, and_true] at hgA
            obtain ⟨rfl, rfl⟩ := hgA
            subst hgA'
            simp only [Nat.zero_add] at Y0 Y1 Y2
            clear OA hd hMx hxe
            have T1 : W6.cell? ⟨w1.heap.size, 1, none⟩ = some (.slice (some ⟨gM', 0, none⟩) M.length cM) := HC6.out.t.cell 1
            have HXD := hid hxd
            clear hxd
            have HLm : Hid (L.length = L.length) := hid rfl
            obtain ⟨m, hm'⟩ : ∃ m, L.length = m := ⟨_, rfl⟩
            rw [hm'] at hml2 Y0 Y1 Y2
            have HLM := hid hm'
            clear hm' HLm
            generalize M.length = mm at *
            subst hml2
            have dm : ((m + 1 : Nat) : Int) = (m : Int) + 1 := by omega
            have i3 : (m : Int) < (m : Int) + 1 := by omega
            have HWL : Hid (IntKind.i64.wrap (m : Int) = (m : Int)) := hid (by simp only [IntKind.wrap_i64]; omega)
            have HWL2 : Hid (IntKind.i64.wrap ((m : Int) + 1 - 1) = (m : Int)) := hid (by rw [show (m : Int) + 1 - 1 = m by omega]; exact HWL.out)
            have Z0 : W6.cell? ⟨wr.heap.size, 0, none⟩ = some (.int .u64 z.epoch) := HBZ.out.cell 0
            have Z1 : W6.cell? ⟨wr.heap.size, 1, none⟩ = some (.int .u64 z.base) := HBZ.out.cell 1
            have Z2 : W6.cell? ⟨wr.heap.size, 2, none⟩ = some (.slice a2 z.entries.length c2) := HBZ.out.cell 2
            have hzz : 0 ≤ z.epoch ∧ 0 ≤ z.base := ⟨n0.1, n1.1⟩
            have HPJ := hid (fun (W : World) (hW : Below W6.heap.size W6 W) => peek_join x z xa a2 _ xc _ c2 W xn0 xn1 (lift (rEntries.mono (S' := (· < W6.heap.size)) HXD.out fun q hq => hq.2) hW) n0 n1 (lift HD.out (below_then hW HC6.out.below)) HXR.out HZR.out)
            have SK := hid (fun (w' : World) (h : Below W6.heap.size W6 w') => (⟨(h.cell (p := ⟨w1.heap.size, 1, none⟩) (by dsimp only; omega)).trans T1, (h.cell (p := ⟨gM', m * 3, none⟩) (by dsimp only; omega)).trans Y0, (h.cell (p := ⟨gM', m * 3 + 1, none⟩) (by dsimp only; omega)).trans Y1, (h.cell (p := ⟨gM', m * 3 + 2, none⟩) (by dsimp only; omega)).trans Y2, (h.cell (p := ⟨wr.heap.size, 0, none⟩) (by dsimp only; omega)).trans Z0, (h.cell (p := ⟨wr.heap.size, 1, none⟩) (by dsimp only; omega)).trans Z1, (h.cell (p := ⟨wr.heap.size, 2, none⟩) (by dsimp only; omega)).trans Z2⟩ : w'.cell? ⟨w1.heap.size, 1, none⟩ = some (.slice (some ⟨gM', 0, none⟩) (m + 1) cM) ∧ w'.cell? ⟨gM', m * 3, none⟩ = some (.int .u64 x.epoch) ∧ w'.cell? ⟨gM', m * 3 + 1, none⟩ = some (.int .u64 x.base) ∧ w'.cell? ⟨gM', m * 3 + 2, none⟩ = some (.slice xa x.entries.length xc) ∧ w'.cell? ⟨wr.heap.size, 0, none⟩ = some (.int .u64 z.epoch) ∧ w'.cell? ⟨wr.heap.size, 1, none⟩ = some (.int .u64 z.base) ∧ w'.cell? ⟨wr.heap.size, 2, none⟩ = some (.slice a2 z.entries.length c2)))
            go_upto_region 9 with (fail)
            go_cut [8, 9] from 21 to 55 (fun s8 s9 V => ∃ (gx : Nat) (v : Option Addr) (p cc : Nat) (e bb : Int), s8 = .pointer (some ⟨gx, 0, none⟩) ∧ s9 = .int .i64 (joinC2 x z) ∧ Blk V gx 25 #[.int .u64 e, .int .u64 bb, .slice v p cc] ∧ (joinC2 x z = 0 → e = x.epoch ∧ bb = x.base ∧ p = (joinB x z).entries.length ∧ rEntries.r (fun q => W6.heap.size ≤ q ∧ q < V.heap.size) V [.slice v p cc] (joinB x z).entries) ∧ Below W6.heap.size W6 V)
            case first =>
              refine wp_region_held_drew (S := fun w' => w'.cell? ⟨w1.heap.size, 1, none⟩ = some (.slice (some ⟨gM', 0, none⟩) (m + 1) cM) ∧ w'.cell? ⟨gM', m * 3, none⟩ = some (.int .u64 x.epoch) ∧ w'.cell? ⟨gM', m * 3 + 1, none⟩ = some (.int .u64 x.base) ∧ w'.cell? ⟨gM', m * 3 + 2, none⟩ = some (.slice xa x.entries.length xc) ∧ w'.cell? ⟨wr.heap.size, 0, none⟩ = some (.int .u64 z.epoch) ∧ w'.cell? ⟨wr.heap.size, 1, none⟩ = some (.int .u64 z.base) ∧ w'.cell? ⟨wr.heap.size, 2, none⟩ = some (.slice a2 z.entries.length c2)) (by kernel_rfl) (SK.out W6 (Below.refl _ _)) (fun hHeld => ?_)
              refine wpAnyH_take (i := 0) (oi := _) (v := ?_) rfl (by decide +kernel) (by decide +kernel) (by decide +kernel) (fun _ _ _ h => h) (Or.inl ⟨by rfl, ?_⟩) (by assumption) ?_
              rotate_left
              · (intro w hSw; (try dsimp only at hSw); go_simp <;> with_reducible rfl)
              (try simp only [Act.put, List.setIfInBounds_toArray, List.set_cons_zero, List.set_cons_succ])
              refine wpAnyH_take (i := 1) (oi := _) (v := ?_) rfl (by decide +kernel) (by decide +kernel) (by decide +kernel) (fun _ _ _ h => h) (Or.inl ⟨by rfl, ?_⟩) (by assumption) ?_
              rotate_left
              · (intro w hSw; (try dsimp only at hSw); go_simp <;> with_reducible rfl)
              (try simp only [Act.put, List.setIfInBounds_toArray, List.set_cons_zero, List.set_cons_succ])
              refine wpAnyH_take (i := 2) (oi := _) (v := ?_) rfl (by decide +kernel) (by decide +kernel) (by decide +kernel) (fun _ _ _ h => h) (Or.inl ⟨by rfl, ?_⟩) (by assumption) ?_
              rotate_left
              · (intro w hSw; (try dsimp only at hSw); go_simp <;> with_reducible rfl)
              (try simp only [Act.put, List.setIfInBounds_toArray, List.set_cons_zero, List.set_cons_succ])
              refine wpAnyH_take (i := 3) (oi := _) (v := ?_) rfl (by decide +kernel) (by decide +kernel) (by decide +kernel) (fun _ _ _ h => h) (Or.inl ⟨by rfl, ?_⟩) (by assumption) ?_
              rotate_left
              · (intro w hSw; (try dsimp only at hSw); go_simp <;> with_reducible rfl)
              (try simp only [Act.put, List.setIfInBounds_toArray, List.set_cons_zero, List.set_cons_succ])
              (try rw [HWL.out])
              (try rw [HWL2.out])
              refine wpAnyH_take (i := 4) (oi := _) (v := ?_) rfl (by decide +kernel) (by decide +kernel) (by decide +kernel) (fun _ _ _ h => h) (Or.inl ⟨by rfl, ?_⟩) (by assumption) ?_
              rotate_left
              · (intro w hSw; (try dsimp only at hSw); go_simp <;> with_reducible rfl)
              (try simp only [Act.put, List.setIfInBounds_toArray, List.set_cons_zero, List.set_cons_succ])
              refine wpAnyH_take (i := 5) (oi := _) (v := ?_) rfl (by decide +kernel) (by decide +kernel) (by decide +kernel) (fun _ _ _ h => h) (Or.inl ⟨by rfl, ?_⟩) (by assumption) ?_
              rotate_left
              · (intro w hSw; (try dsimp only at hSw); go_simp <;> with_reducible rfl)
              (try simp only [Act.put, List.setIfInBounds_toArray, List.set_cons_zero, List.set_cons_succ])
              refine wpAnyH_take (i := 6) (oi := _) (v := ?_) rfl (by decide +kernel) (by decide +kernel) (by decide +kernel) (fun _ _ _ h => h) (Or.inl ⟨by rfl, ?_⟩) (by assumption) ?_
              rotate_left
              · (intro w hSw; (try dsimp only at hSw); go_simp <;> with_reducible rfl)
              (try simp only [Act.put, List.setIfInBounds_toArray, List.set_cons_zero, List.set_cons_succ])
              refine wpAnyH_ready (rs := [7, 11]) (by decide +kernel) (by simp) ?_
              refine AllReadyH.cons (o := _) rfl (fun K hK => ?_) (AllReadyH.cons (o := _) rfl (fun K hK => ?_) AllReadyH.nil)
              · go_simp
                go_at_call 107
                refine (HPJ.out W6.drew (Below.refl _ _).drew).mono ?_
                rintro e1 w7 ⟨v, p, cc, e, bb, rfl, hv, hb7⟩
                have hb67 : Below W6.heap.size W6 w7 := below_then hb7 (Below.refl _ _).drew
                have hv' : joinC2 x z = 0 → e = x.epoch ∧ bb = x.base ∧ p = (joinB x z).entries.length ∧ rEntries.r (fun q => W6.heap.size ≤ q ∧ q < w7.heap.size) w7 [.slice v p cc] (joinB x z).entries := hv
                have HV := hid hv'
                clear hv hv' hb7
                refine hK.out _ _ ?_ (fun hHeld => ?_)
                · ((try dsimp only); first | (refine SK.out _ ?_; (repeat (first | with_reducible exact Below.refl _ _ | with_reducible assumption | (with_reducible refine below_alloc ?_ _) | (with_reducible refine Below.setCell ?_ (by first | omega | (simp; done) | (simp; omega)) _) | (with_reducible refine Below.drew ?_) | (with_reducible refine below_drewN ?_ _) | (refine below_then (by with_reducible assumption) ?_))); done) | (refine ⟨?_, ?_, ?_, ?_⟩ <;> assumption))
                clear hK K
                (try simp only [Act.put, List.setIfInBounds_toArray, List.set_cons_zero, List.set_cons_succ])
                refine wpAnyH_take (i := 8) (oi := _) (v := ?_) rfl (by decide +kernel) (by decide +kernel) (by decide +kernel) (fun _ _ _ h => h) (Or.inl ⟨by rfl, ?_⟩) (by assumption) ?_
                rotate_left
                · (intro w hSw; (try dsimp only at hSw); go_simp <;> with_reducible rfl)
                (try simp only [Act.put, List.setIfInBounds_toArray, List.set_cons_zero, List.set_cons_succ])
                refine wpAnyH_take (i := 9) (oi := _) (v := ?_) rfl (by decide +kernel) (by decide +kernel) (by decide +kernel) (fun _ _ _ h => h) (Or.inl ⟨by rfl, ?_⟩) (by assumption) ?_
                rotate_left
                · (intro w hSw; (try dsimp only at hSw); go_simp <;> with_reducible rfl)
                (try simp only [Act.put, List.setIfInBounds_toArray, List.set_cons_zero, List.set_cons_succ])
                refine wpAnyH_take (i := 10) (oi := _) (v := ?_) rfl (by decide +kernel) (by decide +kernel) (by decide +kernel) (fun _ _ _ h => h) (Or.inl ⟨by rfl, ?_⟩) (by assumption) ?_
                rotate_left
                · (intro w hSw; (try dsimp only at hSw); go_simp <;> with_reducible rfl)
                (try simp only [Act.put, List.setIfInBounds_toArray, List.set_cons_zero, List.set_cons_succ])
                refine wpAnyH_ready (rs := [11]) (by decide +kernel) (by simp) ?_
                refine AllReadyH.cons (o := _) rfl (fun K hK => ?_) AllReadyH.nil
                go_simp
                refine hK.out _ _ ?_ (fun hHeld => ?_)
                · ((try dsimp only); first | (refine SK.out _ ?_; (repeat (first | with_reducible exact Below.refl _ _ | with_reducible assumption | (with_reducible refine below_alloc ?_ _) | (with_reducible refine Below.setCell ?_ (by first | omega | (simp; done) | (simp; omega)) _) | (with_reducible refine Below.drew ?_) | (with_reducible refine below_drewN ?_ _) | (refine below_then (by with_reducible assumption) ?_))); done) | (refine ⟨?_, ?_, ?_, ?_⟩ <;> assumption))
                clear hK K
                (try simp only [Act.put, List.setIfInBounds_toArray, List.set_cons_zero, List.set_cons_succ])
                refine wpAnyH_ready (rs := [12]) (by decide +kernel) (by simp) ?_
                refine AllReadyH.cons (o := _) rfl (fun K hK => ?_) AllReadyH.nil
                go_simp
                refine hK.out _ _ ?_ (fun hHeld => ?_)
                · ((try dsimp only); first | (refine SK.out _ ?_; (repeat (first | with_reducible exact Below.refl _ _ | with_reducible assumption | (with_reducible refine below_alloc ?_ _) | (with_reducible refine Below.setCell ?_ (by first | omega | (simp; done) | (simp; omega)) _) | (with_reducible refine Below.drew ?_) | (with_reducible refine below_drewN ?_ _) | (refine below_then (by with_reducible assumption) ?_))); done) | (refine ⟨?_, ?_, ?_, ?_⟩ <;> assumption))
                clear hK K
                (try simp only [Act.put, List.setIfInBounds_toArray, List.set_cons_zero, List.set_cons_succ])
                refine wpAnyH_take (i := 13) (oi := _) (v := ?_) rfl (by decide +kernel) (by decide +kernel) (by decide +kernel) (fun _ _ _ h => h) (Or.inl ⟨by rfl, ?_⟩) (by assumption) ?_
                rotate_left
                · (intro w hSw; (try dsimp only at hSw); go_simp <;> with_reducible rfl)
                (try simp only [Act.put, List.setIfInBounds_toArray, List.set_cons_zero, List.set_cons_succ])
                simp only [List.getElem_toArray, List.getElem_cons_zero, List.getElem_cons_succ, Act.put, List.setIfInBounds_toArray, List.set_cons_zero, List.set_cons_succ]
                refine wpAnyH_done (by kernel_rfl) ?_ _
                go_wp2_with fail
                go_meet
                case rel =>
                  refine ⟨w7.heap.size, v, p, cc, e, bb, rfl, rfl, Blk.new w7 _ _, fun h0 => ?_, by (repeat (first | with_reducible exact Below.refl _ _ | with_reducible assumption | (with_reducible refine below_alloc ?_ _) | (with_reducible refine Below.setCell ?_ (by first | omega | (simp; done) | (simp; omega)) _) | (with_reducible refine Below.drew ?_) | (with_reducible refine below_drewN ?_ _) | (refine below_then (by with_reducible assumption) ?_)))⟩
                  obtain ⟨q1, q2, q3, q4⟩ := HV.out h0
                  exact ⟨q1, q2, q3, rEntries.mono (rEntries.keep q4 fun q hq => Below.heap_alloc w7 _ q hq.2) fun q hq => ⟨hq.1, by have := hq.2; simp; omega⟩⟩
              · go_simp
                refine hK.out _ _ ?_ (fun hHeld => ?_)
                · ((try dsimp only); first | (refine SK.out _ ?_; (repeat (first | with_reducible exact Below.refl _ _ | with_reducible assumption | (with_reducible refine below_alloc ?_ _) | (with_reducible refine Below.setCell ?_ (by first | omega | (simp; done) | (simp; omega)) _) | (with_reducible refine Below.drew ?_) | (with_reducible refine below_drewN ?_ _) | (refine below_then (by with_reducible assumption) ?_))); done) | (refine ⟨?_, ?_, ?_, ?_⟩ <;> assumption))
                clear hK K
                (try simp only [Act.put, List.setIfInBounds_toArray, List.set_cons_zero, List.set_cons_succ])
                refine wpAnyH_ready (rs := [7]) (by decide +kernel) (by simp) ?_
                refine AllReadyH.cons (o := _) rfl (fun K hK => ?_) AllReadyH.nil
                (go_simp; go_at_call 107; refine (HPJ.out (W6.drew.alloc (.cells #[.int .u64 0, .int .u64 0, .slice none 0 0] 25)) (by (repeat (first | with_reducible exact Below.refl _ _ | with_reducible assumption | (with_reducible refine below_alloc ?_ _) | (with_reducible refine Below.setCell ?_ (by first | omega | (simp; done) | (simp; omega)) _) | (with_reducible refine Below.drew ?_) | (with_reducible refine below_drewN ?_ _) | (refine below_then (by with_reducible assumption) ?_))))).mono ?_; rintro e1 w7 ⟨v, p, cc, e, bb, rfl, hv, hb7⟩; have hb67 : Below W6.heap.size W6 w7 := below_then hb7 (by (repeat (first | with_reducible exact Below.refl _ _ | with_reducible assumption | (with_reducible refine below_alloc ?_ _) | (with_reducible refine Below.setCell ?_ (by first | omega | (simp; done) | (simp; omega)) _) | (with_reducible refine Below.drew ?_) | (with_reducible refine below_drewN ?_ _) | (refine below_then (by with_reducible assumption) ?_)))); have HV := hid hv; have HBX := hid ((Blk.newAt (W6.drew) 25 #[.int .u64 0, .int .u64 0, .slice none 0 0] (g := W6.heap.size) rfl).later hb7); have y0 : w7.cell? ⟨W6.heap.size, 0, none⟩ = some (.int .u64 0) := HBX.out.cell 0; have y1 : w7.cell? ⟨W6.heap.size, 1, none⟩ = some (.int .u64 0) := HBX.out.cell 1; have y2 : w7.cell? ⟨W6.heap.size, 2, none⟩ = some (.slice none 0 0) := HBX.out.cell 2; have y3 : w7.frozen? ⟨W6.heap.size, 0, none⟩ = false := HBX.out.free 0; have y4 : w7.frozen? ⟨W6.heap.size, 1, none⟩ = false := HBX.out.free 1; have y5 : w7.frozen? ⟨W6.heap.size, 2, none⟩ = false := HBX.out.free 2; have hy : W6.heap.size < w7.heap.size := HBX.out.lt; clear hv hb7)
                refine hK.out _ _ ?_ (fun hHeld => ?_)
                · ((try dsimp only); first | (refine SK.out _ ?_; (repeat (first | with_reducible exact Below.refl _ _ | with_reducible assumption | (with_reducible refine below_alloc ?_ _) | (with_reducible refine Below.setCell ?_ (by first | omega | (simp; done) | (simp; omega)) _) | (with_reducible refine Below.drew ?_) | (with_reducible refine below_drewN ?_ _) | (refine below_then (by with_reducible assumption) ?_))); done) | (refine ⟨?_, ?_, ?_, ?_⟩ <;> assumption))
                clear hK K
                (try simp only [Act.put, List.setIfInBounds_toArray, List.set_cons_zero, List.set_cons_succ])
                refine wpAnyH_take (i := 8) (oi := _) (v := ?_) rfl (by decide +kernel) (by decide +kernel) (by decide +kernel) (fun _ _ _ h => h) (Or.inl ⟨by rfl, ?_⟩) (by assumption) ?_
                rotate_left
                · (intro w hSw; (try dsimp only at hSw); go_simp <;> with_reducible rfl)
                (try simp only [Act.put, List.setIfInBounds_toArray, List.set_cons_zero, List.set_cons_succ])
                refine wpAnyH_take (i := 9) (oi := _) (v := ?_) rfl (by decide +kernel) (by decide +kernel) (by decide +kernel) (fun _ _ _ h => h) (Or.inl ⟨by rfl, ?_⟩) (by assumption) ?_
                rotate_left
                · (intro w hSw; (try dsimp only at hSw); go_simp <;> with_reducible rfl)
                (try simp only [Act.put, List.setIfInBounds_toArray, List.set_cons_zero, List.set_cons_succ])
                refine wpAnyH_take (i := 10) (oi := _) (v := ?_) rfl (by decide +kernel) (by decide +kernel) (by decide +kernel) (fun _ _ _ h => h) (Or.inl ⟨by rfl, ?_⟩) (by assumption) ?_
                rotate_left
                · (intro w hSw; (try dsimp only at hSw); go_simp <;> with_reducible rfl)
                (try simp only [Act.put, List.setIfInBounds_toArray, List.set_cons_zero, List.set_cons_succ])
                refine wpAnyH_ready (rs := [12]) (by decide +kernel) (by simp) ?_
                refine AllReadyH.cons (o := _) rfl (fun K hK => ?_) AllReadyH.nil
                go_simp
                refine hK.out _ _ ?_ (fun hHeld => ?_)
                · ((try dsimp only); first | (refine SK.out _ ?_; (repeat (first | with_reducible exact Below.refl _ _ | with_reducible assumption | (with_reducible refine below_alloc ?_ _) | (with_reducible refine Below.setCell ?_ (by first | omega | (simp; done) | (simp; omega)) _) | (with_reducible refine Below.drew ?_) | (with_reducible refine below_drewN ?_ _) | (refine below_then (by with_reducible assumption) ?_))); done) | (refine ⟨?_, ?_, ?_, ?_⟩ <;> assumption))
                clear hK K
                (try simp only [Act.put, List.setIfInBounds_toArray, List.set_cons_zero, List.set_cons_succ])
                refine wpAnyH_take (i := 13) (oi := _) (v := ?_) rfl (by decide +kernel) (by decide +kernel) (by decide +kernel) (fun _ _ _ h => h) (Or.inl ⟨by rfl, ?_⟩) (by assumption) ?_
                rotate_left
                · (intro w hSw; (try dsimp only at hSw); go_simp <;> with_reducible rfl)
                (try simp only [Act.put, List.setIfInBounds_toArray, List.set_cons_zero, List.set_cons_succ])
                simp only [List.getElem_toArray, List.getElem_cons_zero, List.getElem_cons_succ, Act.put, List.setIfInBounds_toArray, List.set_cons_zero, List.set_cons_succ]
                refine wpAnyH_done (by kernel_rfl) ?_ _
                go_wp2_with fail
                go_meet
                case rel =>
                  have ZB := ((HBX.out.set 0 (.int .u64 e)).set 1 (.int .u64 bb)).set 2 (.slice v p cc)
                  simp only [List.setIfInBounds_toArray, List.set_cons_zero, List.set_cons_succ] at ZB
                  refine ⟨W6.heap.size, v, p, cc, e, bb, rfl, rfl, ZB, fun h0 => ?_, by (repeat (first | with_reducible exact Below.refl _ _ | with_reducible assumption | (with_reducible refine below_alloc ?_ _) | (with_reducible refine Below.setCell ?_ (by first | omega | (simp; done) | (simp; omega)) _) | (with_reducible refine Below.drew ?_) | (with_reducible refine below_drewN ?_ _) | (refine below_then (by with_reducible assumption) ?_)))⟩
                  obtain ⟨q1, q2, q3, q4⟩ := HV.out h0
                  refine ⟨q1, q2, q3, rEntries.mono (rEntries.keep q4 fun q hq => ?_) fun q hq => ⟨by have := hq.1; simp at this; omega, by have := hq.2; simpa using this⟩⟩
                  have hq1 := hq.1
                  simp at hq1
                  repeat rw [Below.heap_setCell _ _ _ _ (by dsimp only; omega)]
            case rest =>
              obtain ⟨gx, v, p, cc, e, bb, rfl, rfl, hbx, hv, hbV⟩ := hcut
              have HV := hid hv
              have HCV := hid (HC6.out.later hbV)
              have X0 : wc.cell? ⟨gx, 0, none⟩ = some (.int .u64 e) := hbx.cell 0
              have X1 : wc.cell? ⟨gx, 1, none⟩ = some (.int .u64 bb) := hbx.cell 1
              have X2 : wc.cell? ⟨gx, 2, none⟩ = some (.slice v p cc) := hbx.cell 2
              have hgx : gx < wc.heap.size := hbx.lt
              obtain ⟨q1, y0, y1, y2, _, _, _⟩ := SK.out _ hbV
              have y3 : wc.frozen? ⟨gM', m * 3, none⟩ = false := (hbV.frozen (p := ⟨gM', m * 3, none⟩) (by dsimp only; omega)).trans (hgf _)
              have y4 : wc.frozen? ⟨gM', m * 3 + 1, none⟩ = false := (hbV.frozen (p := ⟨gM', m * 3 + 1, none⟩) (by dsimp only; omega)).trans (hgf _)
              have y5 : wc.frozen? ⟨gM', m * 3 + 2, none⟩ = false := (hbV.frozen (p := ⟨gM', m * 3 + 2, none⟩) (by dsimp only; omega)).trans (hgf _)
              have hgc : gM' < wc.heap.size := by have := hbV.size; omega
              have HBV := hid hbV
              clear hv hbx hbV T1 Y0 Y1 Y2 Z0 Z1 Z2 SK HPJ
              by_cases hj : joinC2 x z = 0
              · obtain ⟨rfl, rfl, rfl, hr⟩ := HV.out hj
                have HJ := hid hj
                have HRJ := hid hr
                rw [hj]
                have hs6 := HBV.out.size
                have hG := CmI.grow (y := joinB x z) HCV.out HMX.out rfl rfl rfl (batch_mk (v := .slice v (joinB x z).entries.length cc) xn0 xn1 (rEntries.mono hr fun q hq => ⟨⟨by have := hq.1; omega, hq.2⟩, by have := hq.1; omega⟩))
                rw [HLM.out] at hG
                have HG := hid hG
                clear hr hj hG HV
                go_wp2_with fail
                go_roundw
                case rel => exact ⟨k + 1, _, cM, by omega, by go_num, by rw [HST.out, HMX.out, compS_snoc, if_pos HJ.out]; exact HG.out⟩
                case measure => simp [intOf]; omega
              · have hd : (joinC2 x z == 0) = false := beq_eq_false_iff_ne.2 hj
                have HJ := hid hj
                clear hj
                go_wp2_with fail
                go_meet
                case rel => exact ⟨HCV.out, HBZ.out.later HBV.out, HNZ, hid (by rw [HMX.out, compS_snoc, if_neg HJ.out])⟩
        case rest =>
          obtain ⟨hci, hbz, HNZ, hcs⟩ := hcut
          have HCI2 := hid hci
          have HBZ2 := hid hbz
          have HBC := hid (fun (W : World) (hW : Below w.heap.size w W) => batch_copy z a2 _ c2 W (lift HD.out hW) (fair_of HZR.out).2.1 (fair_of HZR.out).2.2)
          have T1 : wc.cell? ⟨w1.heap.size, 1, none⟩ = some (.slice aM M.length cM) := hci.t.cell 1
          have Z0 : wc.cell? ⟨wr.heap.size, 0, none⟩ = some (.int .u64 z.epoch) := hbz.cell 0
          have Z1 : wc.cell? ⟨wr.heap.size, 1, none⟩ = some (.int .u64 z.base) := hbz.cell 1
          have Z2 : wc.cell? ⟨wr.heap.size, 2, none⟩ = some (.slice a2 z.entries.length c2) := hbz.cell 2
          have hzc1 : w1.heap.size < wc.heap.size := hci.t.lt
          have hzc2 : wr.heap.size < wc.heap.size := hbz.lt
          have HRW := hid hci.row
          have SK := hid (fun (w' : World) (h : Below wc.heap.size wc w') => (⟨(h.cell (p := ⟨w1.heap.size, 1, none⟩) hzc1).trans T1, (h.cell (p := ⟨wr.heap.size, 0, none⟩) hzc2).trans Z0, (h.cell (p := ⟨wr.heap.size, 1, none⟩) hzc2).trans Z1, (h.cell (p := ⟨wr.heap.size, 2, none⟩) hzc2).trans Z2⟩ : w'.cell? ⟨w1.heap.size, 1, none⟩ = some (.slice aM M.length cM) ∧ w'.cell? ⟨wr.heap.size, 0, none⟩ = some (.int .u64 z.epoch) ∧ w'.cell? ⟨wr.heap.size, 1, none⟩ = some (.int .u64 z.base) ∧ w'.cell? ⟨wr.heap.size, 2, none⟩ = some (.slice a2 z.entries.length c2)))
          clear hci hbz HC6 HBZ
          go_wp2_with fail
          refine wp_region_last_held (fun w' => w'.cell? ⟨w1.heap.size, 1, none⟩ = some (.slice aM M.length cM) ∧ w'.cell? ⟨wr.heap.size, 0, none⟩ = some (.int .u64 z.epoch) ∧ w'.cell? ⟨wr.heap.size, 1, none⟩ = some (.int .u64 z.base) ∧ w'.cell? ⟨wr.heap.size, 2, none⟩ = some (.slice a2 z.entries.length c2)) _ (by kernel_rfl) rfl (by kernel_rfl) ⟨T1, Z0, Z1, Z2⟩ (fun hHeld => ?_)
          simp only [noopLast, noopOf]
          refine wpAnyH_take (i := 0) (oi := _) (v := ?_) rfl (by decide +kernel) (by decide +kernel) (by decide +kernel) (fun _ _ _ h => h) (Or.inl ⟨by rfl, ?_⟩) (by assumption) ?_
          rotate_left
          · (intro w hSw; (try dsimp only at hSw); go_simp <;> with_reducible rfl)
          (try simp only [Act.put, List.setIfInBounds_toArray, List.set_cons_zero, List.set_cons_succ])
          refine wpAnyH_take (i := 1) (oi := _) (v := ?_) rfl (by decide +kernel) (by decide +kernel) (by decide +kernel) (fun _ _ _ h => h) (Or.inl ⟨by rfl, ?_⟩) (by assumption) ?_
          rotate_left
          · (intro w hSw; (try dsimp only at hSw); go_simp <;> with_reducible rfl)
          (try simp only [Act.put, List.setIfInBounds_toArray, List.set_cons_zero, List.set_cons_succ])
          refine wpAnyH_take (i := 2) (oi := _) (v := ?_) rfl (by decide +kernel) (by decide +kernel) (by decide +kernel) (fun _ _ _ h => h) (Or.inl ⟨by rfl, ?_⟩) (by assumption) ?_
          rotate_left
          · (intro w hSw; (try dsimp only at hSw); go_simp <;> with_reducible rfl)
          (try simp only [Act.put, List.setIfInBounds_toArray, List.set_cons_zero, List.set_cons_succ])
          refine wpAnyH_ready (rs := [3]) (by decide +kernel) (by simp) ?_
          refine AllReadyH.cons (o := _) rfl (fun K hK => ?_) AllReadyH.nil
          (go_simp; go_at_call 27; refine (HBC.out _ (HCI2.out.below.trans (Below.refl _ _).drew)).mono ?_; rintro e1 w6 ⟨v6, rfl, hv6, hb6⟩; obtain ⟨a6, c6, hfv, hr6, _⟩ := sl_form hv6; simp only [List.cons.injEq, and_true] at hfv; subst hfv; have hb56 : Below wc.heap.size wc w6 := below_then hb6 (Below.refl _ _).drew; have HB56 := hid hb56; have HR6 := hid (rEntries.mono (S' := fun q => wc.heap.size ≤ q ∧ q < w6.heap.size) hr6 fun q hq => by simpa [Fresh] using hq); clear hv6 hr6 hb6)
          refine hK.out _ _ ?_ (fun hHeld => ?_)
          · ((try dsimp only); first | (refine SK.out _ ?_; (repeat (first | with_reducible exact Below.refl _ _ | with_reducible assumption | (with_reducible refine below_alloc ?_ _) | (with_reducible refine Below.setCell ?_ (by first | omega | (simp; done) | (simp; omega)) _) | (with_reducible refine Below.drew ?_) | (with_reducible refine below_drewN ?_ _) | (refine below_then (by with_reducible assumption) ?_))); done) | (refine ⟨?_, ?_, ?_, ?_⟩ <;> assumption))
          clear hK K
          (try simp only [Act.put, List.setIfInBounds_toArray, List.set_cons_zero, List.set_cons_succ])
          refine wpAnyH_ready (rs := [4]) (by decide +kernel) (by simp) ?_
          refine AllReadyH.cons (o := _) rfl (fun K hK => ?_) AllReadyH.nil
          go_simp
          refine hK.out _ _ ?_ (fun hHeld => ?_)
          · ((try dsimp only); first | (refine SK.out _ ?_; (repeat (first | with_reducible exact Below.refl _ _ | with_reducible assumption | (with_reducible refine below_alloc ?_ _) | (with_reducible refine Below.setCell ?_ (by first | omega | (simp; done) | (simp; omega)) _) | (with_reducible refine Below.drew ?_) | (with_reducible refine below_drewN ?_ _) | (refine below_then (by with_reducible assumption) ?_))); done) | (refine ⟨?_, ?_, ?_, ?_⟩ <;> assumption))
          clear hK K
          (try simp only [Act.put, List.setIfInBounds_toArray, List.set_cons_zero, List.set_cons_succ])
          refine wpAnyH_ready (rs := [5]) (by decide +kernel) (by simp) ?_
          refine AllReadyH.cons (o := _) rfl (fun K hK => ?_) AllReadyH.nil
          (have hb67 : Below w6.heap.size w6 (w6.alloc (.cells #[.int .u64 z.epoch, .int .u64 z.base, .slice a6 z.entries.length c6] 25)) := below_alloc (Below.refl _ _) _; have hb57 : Below wc.heap.size wc (w6.alloc (.cells #[.int .u64 z.epoch, .int .u64 z.base, .slice a6 z.entries.length c6] 25)) := below_then hb67 HB56.out; have HCX := hid (HCI2.out.later hb57); have HZX := hid (HBZ2.out.later hb57); have hs57 := hb57.size; obtain ⟨cells, OA⟩ := HCX.out.own; have hX : rBatch.r (fun q => (w1.heap.size + 1 ≤ q ∧ q < (w6.alloc (.cells #[.int .u64 z.epoch, .int .u64 z.base, .slice a6 z.entries.length c6] 25)).heap.size) ∧ (Value.slice aM M.length cM).ownBlock ≠ some q) (w6.alloc (.cells #[.int .u64 z.epoch, .int .u64 z.base, .slice a6 z.entries.length c6] 25)) [.int .u64 z.epoch, .int .u64 z.base, .slice a6 z.entries.length c6] z := batch_mk n0 n1 (rEntries.mono (rEntries.keep HR6.out fun q hq => Below.heap_alloc w6 _ q hq.2) fun q hq => ⟨⟨by have := hq.1; omega, by have := hq.2; simp; omega⟩, fun e => by have := (HRW.out q e).2; have := hq.1; omega⟩); have HX := hid hX; have HOA := hid OA; clear hX OA; refine step_append_src (by rfl) _ _ _ (by rfl) (w1.heap.size + 1) 25 i0 (.agg #[.int .u64 0, .int .u64 0, .slice none 0 0]) 3 40 Tryz.underlying60 hi hz0 hz1 hz2 rfl (by decide) (.slice aM M.length cM) M.length _ (by rfl) HOA.out.1 (some ⟨w6.heap.size, 0, none⟩) 1 1 [.int .u64 z.epoch, .int .u64 z.base, .slice a6 z.entries.length c6] (by rfl) (src_blk (Blk.new w6 _ _) rfl) (by intro u hu; simp at hu; rcases hu with rfl | rfl | rfl <;> rfl) (by simp only [maxLen]; omega) (by omega) (by omega) ?_; intro a8 c8 w8 hown8 hgrow8 hat8; have HP := hid (CmI.push HCX.out HOA.out rfl HX.out hown8 hgrow8 hat8); have HT8 := hid (HCX.out.t.grown hgrow8 (fun e => by have := (HRW.out _ e.symm).1; omega)); have HZ8 := hid (HZX.out.grown hgrow8 (fun e => HNZ.out e.symm)); have m1 : w8.cell? ⟨w1.heap.size, 1, none⟩ = some (.slice aM M.length cM) := HT8.out.cell 1; have m2 : w8.frozen? ⟨w1.heap.size, 1, none⟩ = false := HT8.out.free 1; have m4 : w1.heap.size < w8.heap.size := HT8.out.lt; have k0 : w8.cell? ⟨wr.heap.size, 0, none⟩ = some (.int .u64 z.epoch) := HZ8.out.cell 0; have k1 : w8.cell? ⟨wr.heap.size, 1, none⟩ = some (.int .u64 z.base) := HZ8.out.cell 1; have k2 : w8.cell? ⟨wr.heap.size, 2, none⟩ = some (.slice a2 z.entries.length c2) := HZ8.out.cell 2; clear hown8 hgrow8 hat8 hb67 hb57)
          refine hK.out _ _ ?_ (fun hHeld => ?_)
          · ((try dsimp only); first | (refine SK.out _ ?_; (repeat (first | with_reducible exact Below.refl _ _ | with_reducible assumption | (with_reducible refine below_alloc ?_ _) | (with_reducible refine Below.setCell ?_ (by first | omega | (simp; done) | (simp; omega)) _) | (with_reducible refine Below.drew ?_) | (with_reducible refine below_drewN ?_ _) | (refine below_then (by with_reducible assumption) ?_))); done) | (refine ⟨?_, ?_, ?_, ?_⟩ <;> assumption))
          clear hK K
          (try simp only [Act.put, List.setIfInBounds_toArray, List.set_cons_zero, List.set_cons_succ])
          refine wpAnyH_take (i := 6) (oi := _) (v := ?_) rfl (by decide +kernel) (by decide +kernel) (by decide +kernel) (fun _ _ _ h => h) (Or.inl ⟨by rfl, ?_⟩) (by assumption) ?_
          rotate_left
          · (intro w hSw; (try dsimp only at hSw); go_simp <;> with_reducible rfl)
          (try simp only [Act.put, List.setIfInBounds_toArray, List.set_cons_zero, List.set_cons_succ])
          refine wpAnyH_take (i := 7) (oi := _) (v := ?_) rfl (by decide +kernel) (by decide +kernel) (by decide +kernel) (fun _ _ _ h => h) (Or.inl ⟨by rfl, ?_⟩) (by assumption) ?_
          rotate_left
          · (intro w hSw; (try dsimp only at hSw); go_simp <;> with_reducible rfl)
          (try simp only [Act.put, List.setIfInBounds_toArray, List.set_cons_zero, List.set_cons_succ])
          refine wpAnyH_done (by kernel_rfl) ?_ _
          show wpList _ _ _ _ _ _
          go_wp2_with fail
          go_roundw
          case rel => exact ⟨k + 1, a8, c8, by omega, by go_num, by rw [HST.out, hcs.out]; exact HP.out⟩
          case measure => simp [intOf]; omega
      · obtain rfl : k = l.length := by omega
        rw [List.take_length] at hci
        have HC := hid hci
        have t0 : wr.cell? ⟨w1.heap.size, 0, none⟩ = some (.int .u64 ep) := hci.t.cell 0
        have t1 : wr.cell? ⟨w1.heap.size, 1, none⟩ = some (.slice aM (compL l).length cM) := hci.t.cell 1
        have r0 : wr.cell? ⟨w.heap.size + 1, 0, none⟩ = some (.int .u64 0) := hci.r.cell 0
        have r1 : wr.cell? ⟨w.heap.size + 1, 1, none⟩ = some (.slice none 0 0) := hci.r.cell 1
        have f0 : wr.frozen? ⟨w.heap.size + 1, 0, none⟩ = false := hci.r.free 0
        have f1 : wr.frozen? ⟨w.heap.size + 1, 1, none⟩ = false := hci.r.free 1
        have hrz : w.heap.size + 1 < wr.heap.size := hci.r.lt
        have hlo := hci.lo
        clear hci
        go_wp2
        refine bodyPost_ret (v := .tuple #[.agg #[.int .u64 ep, .slice aM (compL l).length cM], .int .i64 0]) (by simp [results, Tryz.results46, go_sem, World.cell?_setCell_far, r0, r1]) rfl ⟨_, _, rfl, rfl, ?_, ?_⟩
        · refine rBatches.mono (rBatches.keep (OwnEls.slice (Nat.le_refl _) HC.out.own) fun q hq => ?_) fun q hq => ⟨by have := hq.1; omega, by have := hq.2; simpa using this⟩
          have := hq.1
          repeat rw [Below.heap_setCell _ _ _ _ (by dsimp only; omega)]
        · have hb9 := HC.out.below
          exact (hb9.setCell (by dsimp only; omega) _).setCell (by dsimp only; omega) _
end Go.Proofs.YtkipiefcnjfdjaaGreat
namespace Go.Proofs.YtkipiefcnjfdjaaGreat
open Go.RowKit Go.Bs
set_option linter.unusedVariables false
set_option linter.unusedSimpArgs false

/-- What the document's Entry hands back. -/
def EntAp (l : List Batch) (pos : Int) (r : Ending) : Prop :=
  match findS l pos with
  | none => r = .returned (.tuple #[.int .i64 (-1), .int .i64 (-1)])
  | some e => ∃ (i k : Nat) (hi : i < l.length) (hk : k < (l[i]'hi).entries.length), ((l[i]'hi).entries[k]'hk = e ∧ (l[i]'hi).base + (k : Int) = pos) ∧ r = .returned (.tuple #[.int .i64 i, .int .i64 k])

set_option maxRecDepth 100000 in
set_option maxHeartbeats 1600000 in
theorem ref34_entryP (e : Int) (l : List Batch) (pos : Int) (a : Option Addr) (n c : Nat) (w : World) (hl : rBatches.r (· < w.heap.size) w [.slice a n c] l) (hp : 0 ≤ pos ∧ pos ≤ 18446744073709551615) (hb0 : ∀ b ∈ l, b.base + b.entries.length ≤ 4611686018427387904) :
    Calls Tryz.prog 55 #[.agg #[.int .u64 e, .slice a n c], .int .u64 pos] w fun r w' => EntAp l pos r ∧ Below w.heap.size w w' := by
  obtain ⟨rfl, hm, _, _⟩ := sl_len hl
  have HL := hid hl
  have HB0 := hid hb0
  clear hl hb0
  go_enter Tryz.func55, Tryz.ntmps55
  go_wp2_with fail
  refine wp_world (fun W => Below w.heap.size w W ∧ w.heap.size < W.heap.size ∧ W.cell? ⟨w.heap.size, 1, none⟩ = some (.slice a l.length c)) ⟨by (repeat (first | exact Below.refl _ _ | assumption | (refine below_alloc ?_ _) | (refine Below.setCell ?_ (by first | omega | (simp; done) | (simp; omega)) _) | (refine Below.drew ?_) | (refine below_drewN ?_ _) | (refine below_then (by assumption) ?_))), by simp, by go_simp⟩ ?_
  intro W ⟨hbW, hzW, q1⟩
  go_loopw [6] (fun i wr => ∃ k : Nat, k ≤ l.length ∧ i = .int .i64 k ∧ Hid (findS l pos = findS (l.drop k) pos) ∧ Below W.heap.size W wr) (fun i _ => l.length - (intOf i).toNat)
  case atStart => exact ⟨0, Nat.zero_le _, rfl, hid rfl, Below.refl _ _⟩
  case round =>
    obtain ⟨k, hk, rfl, hf, hb⟩ := hrel
    have hb3 := below_then hb hbW
    have t1 : wr.cell? ⟨w.heap.size, 1, none⟩ = some (.slice a l.length c) := (Later.mk wr hb).cell q1
    have hz3 : w.heap.size < wr.heap.size := by have := hb.size; omega
    by_cases hlt : k < l.length
    · obtain ⟨b, o, hA, hbb, a1, c1, X0, X1, X2, _, b1, hd⟩ := batch_at (lift HL.out hb3) hlt
      subst hA
      have hst := hid (findS_step l pos k hlt)
      have hb5 := HB0.out _ (List.getElem_mem hlt)
      have HKK : Hid (∀ j : Nat, ∀ hj : j < (l[k]'hlt).entries.length, (l[k]'hlt).base + j = pos → EntAp l pos (.returned (.tuple #[.int .i64 k, .int .i64 j]))) := hid (by
        intro j hj hp
        unfold EntAp
        rw [hf.out, hst.out, findB_some_of hj hp]
        exact ⟨k, j, hlt, hj, ⟨rfl, hp⟩, rfl⟩)
      clear hd
      generalize l[k] = z at *
      obtain ⟨wo, hwo⟩ : ∃ wo : World, wo = wr := ⟨_, rfl⟩
      subst hwo
      have i1 : (k : Int) < (l.length : Int) := by omega
      obtain ⟨hm1, _⟩ : z.entries.length ≤ 4611686018427387904 ∧ True := ⟨by omega, trivial⟩
      go_wp2_with fail
      go_loopw [7] (fun i wq => ∃ j : Nat, j ≤ z.entries.length ∧ i = .int .i64 j ∧ Hid (∀ t : Nat, t < j → ¬ z.base + t = pos) ∧ Below wo.heap.size wo wq) (fun i _ => z.entries.length - (intOf i).toNat)
      case atStart => exact ⟨0, Nat.zero_le _, rfl, hid (fun t ht => absurd ht (Nat.not_lt_zero _)), Below.refl _ _⟩
      case round =>
        obtain ⟨j, hj, rfl, hno, hq⟩ := hrel
        have hq3 := below_then hq hb3
        have t2 : wr.cell? ⟨w.heap.size, 1, none⟩ = some (.slice (some ⟨b, o, none⟩) l.length c) := (Later.mk wr hq).cell t1
        have hbo : b < wo.heap.size := hbb
        have Y1 : wr.cell? ⟨b, o + k * 3 + 1, none⟩ = some (.int .u64 z.base) := (Later.mk wr hq).cell X1
        have Y2 : wr.cell? ⟨b, o + k * 3 + 2, none⟩ = some (.slice a1 z.entries.length c1) := (Later.mk wr hq).cell X2
        by_cases hjl : j < z.entries.length
        · have j1 : (j : Int) < (z.entries.length : Int) := by omega
          have hr : 0 ≤ z.base + (j : Int) ∧ z.base + (j : Int) ≤ 18446744073709551615 := by omega
          by_cases hpe : z.base + (j : Int) = pos
          · have hd : (z.base + (j : Int) == pos) = true := by simp [hpe]
            have HE := hid (HKK.out j hjl hpe)
            clear hpe
            go_wp2
            go_ret2
            exact ⟨HE.out, by (repeat (first | exact Below.refl _ _ | assumption | (refine below_alloc ?_ _) | (refine Below.setCell ?_ (by first | omega | (simp; done) | (simp; omega)) _) | (refine Below.drew ?_) | (refine below_drewN ?_ _) | (refine below_then (by assumption) ?_)))⟩
          · have hd : (z.base + (j : Int) == pos) = false := by simp [hpe]
            have HN : Hid (∀ t : Nat, t < j + 1 → ¬ z.base + t = pos) := hid (fun t ht => by
              rcases Nat.lt_succ_iff_lt_or_eq.1 ht with h | rfl
              · exact hno.out t h
              · exact hpe)
            clear hpe
            go_wp2
            go_roundw
            case rel => exact ⟨j + 1, by omega, by go_num, HN, by (repeat (first | exact Below.refl _ _ | assumption | (refine below_alloc ?_ _) | (refine Below.setCell ?_ (by first | omega | (simp; done) | (simp; omega)) _) | (refine Below.drew ?_) | (refine below_drewN ?_ _) | (refine below_then (by assumption) ?_)))⟩
            case measure => simp [intOf]; omega
        · obtain rfl : j = z.entries.length := by omega
          have hff : Hid (findS l pos = findS (l.drop (k + 1)) pos) := hid (by rw [hf.out, hst.out, findB_none_of hno.out]; rfl)
          go_wp2
          go_roundw
          case rel => exact ⟨k + 1, by omega, by go_num, hff, below_then hq hb⟩
          case measure => simp [intOf]; omega
    · obtain rfl : k = l.length := by omega
      have hff : Hid (findS l pos = none) := hid (by rw [hf.out, List.drop_length]; rfl)
      go_wp2
      go_ret2
      exact ⟨by unfold EntAp; rw [hff.out]; rfl, by (repeat (first | exact Below.refl _ _ | assumption | (refine below_alloc ?_ _) | (refine Below.setCell ?_ (by first | omega | (simp; done) | (simp; omega)) _) | (refine Below.drew ?_) | (refine below_drewN ?_ _) | (refine below_then (by assumption) ?_)))⟩

set_option maxHeartbeats 800000 in
theorem law34_bytesOf (x : Batch) (a : Option Addr) (n c : Nat) (w : World) (hl : rEntries.r (· < w.heap.size) w [.slice a n c] x.entries) (ht : total x.entries ≤ 1000000000000) :
    Calls Tryz.prog 47 #[.agg #[.int .u64 x.epoch, .int .u64 x.base, .slice a n c]] w fun r w' => r = .returned (.int .i64 (total x.entries : Nat)) ∧ Below w.heap.size w w' := by
  obtain ⟨rfl, hm, _, _⟩ := sl_len hl
  have HJ := hid (fun (W : World) (hW : Below w.heap.size w W) => ref24_join x.entries a _ c W (lift hl hW) ht)
  have hj : Hid ((joined x.entries).length = total x.entries) := hid (joined_length _)
  clear hl
  go_enter Tryz.func47, Tryz.ntmps47
  go_wp2_with fail
  refine (HJ.out _ (by (repeat (first | exact Below.refl _ _ | assumption | (refine below_alloc ?_ _) | (refine Below.setCell ?_ (by first | omega | (simp; done) | (simp; omega)) _) | (refine Below.drew ?_) | (refine below_drewN ?_ _) | (refine below_then (by assumption) ?_))))).mono ?_
  rintro r w4 ⟨v, rfl, hr4, hb4⟩
  obtain ⟨a4, c4, hv4, _, _⟩ := sl_form hr4
  simp only [List.cons.injEq, and_true] at hv4
  subst hv4
  rw [hj.out]
  have hb5 : Below w.heap.size w w4 := below_then hb4 (by (repeat (first | exact Below.refl _ _ | assumption | (refine below_alloc ?_ _) | (refine Below.setCell ?_ (by first | omega | (simp; done) | (simp; omega)) _) | (refine Below.drew ?_) | (refine below_drewN ?_ _) | (refine below_then (by assumption) ?_))))
  clear hr4
  go_wp2
  go_ret
  exact ⟨rfl, hb5⟩

/-- The argument's boxes. -/
structure SmI (w W : World) (ep : Int) (a : Option Addr) (n c : Nat) (ec : Int) (a' : Option Addr) (n' c' : Nat) : Prop where
  below : Below w.heap.size w W
  g : Blk W w.heap.size 62 #[.int .u64 ep, .slice a n c]
  h : Blk W (w.heap.size + 1) 62 #[.int .u64 ec, .slice a' n' c']
theorem SmI.later {w W W' : World} {ep : Int} {a : Option Addr} {n c : Nat} {ec : Int} {a' : Option Addr} {n' c' : Nat} (h : SmI w W ep a n c ec a' n' c') (hb : Below W.heap.size W W') : SmI w W' ep a n c ec a' n' c' := ⟨below_then hb h.below, h.g.later hb, h.h.later hb⟩
theorem findS_at {l : List Batch} {i k : Nat} (hi : i < l.length) (hk : k < l[i].entries.length) : ∃ e, findS l (l[i].base + (k : Int)) = some e := by
  cases h : findS l (l[i].base + (k : Int)) with
  | some e => exact ⟨e, rfl⟩
  | none =>
    exfalso
    unfold findS at h
    rw [List.findSome?_eq_none_iff] at h
    have := h _ (List.getElem_mem hi)
    rw [findB_some_of hk rfl] at this
    cases this

set_option maxRecDepth 100000 in
set_option maxHeartbeats 6400000 in
theorem law34_same (ep ec : Int) (l lc : List Batch) (a a' : Option Addr) (n c n' c' : Nat) (w : World) (hl : rBatches.r (· < w.heap.size) w [.slice a n c] l) (hlc : rBatches.r (· < w.heap.size) w [.slice a' n' c'] lc)
    (hfl : flatL lc = flatL l) (hch : ∃ e, chainR e none lc = true) (hbl : ∀ b ∈ l, batchR b = true) (hbc : ∀ b ∈ lc, batchR b = true) (hn : nEntries l ≤ 100000) (hnb : nBytes lc ≤ 1000000000000) :
    Calls Tryz.prog 48 #[.agg #[.int .u64 ep, .slice a n c], .agg #[.int .u64 ec, .slice a' n' c'], .int .u64 0, .int .u64 9223372036854775808] w fun r w' => r = .returned (.bool true) ∧ Below w.heap.size w w' := by
  obtain ⟨rfl, hm, _, _⟩ := sl_len hl
  obtain ⟨rfl, hm2, _, _⟩ := sl_len hlc
  have hnn : nEntries lc = nEntries l := by rw [← flatL_len, ← flatL_len, hfl]
  have HNN := hid hnn
  have HEN := hid (fun (W : World) (hW : Below w.heap.size w W) (pos : Int) (hp : 0 ≤ pos ∧ pos ≤ 18446744073709551615) => ref34_entryP ec lc pos a' _ c' W (lift hlc hW) hp (fun b hb => (batchR_facts (hbc b hb)).2.2.2.2.1))
  have HCO := hid (fun (W : World) (hW : Below w.heap.size w W) => ref34_counts ec lc a' _ c' W (lift hlc hW) (by omega) hnb)
  have HL := hid hl
  have HLC := hid hlc
  have HBL := hid hbl
  obtain ⟨ech, hch⟩ := hch
  have HFL := hid hfl
  have HCH := hid hch
  clear hl hlc hbl hbc hfl hch hnn
  go_enter Tryz.func48, Tryz.ntmps48
  go_wp2_with fail
  refine wp_world (fun W => SmI w W ep a l.length c ec a' lc.length c') ⟨below_alloc (below_alloc (Below.refl _ _) _) _, (Blk.new w _ _).alloc _, Blk.new1 w _ _ _⟩ ?_
  intro W hsm
  have HSI := hid hsm
  clear hsm
  go_loopw [9, 10] (fun s i wr => ∃ k : Nat, k ≤ l.length ∧ i = .int .i64 k ∧ s = .int .i64 (nEntries (l.take k) : Nat) ∧ Below W.heap.size W wr) (fun _ i _ => l.length - (intOf i).toNat)
  case atStart => exact ⟨0, Nat.zero_le _, rfl, rfl, Below.refl _ _⟩
  case round =>
    obtain ⟨k, hk, rfl, rfl, hb⟩ := hrel
    have HSR := hid (HSI.out.later hb)
    have g1 : wr.cell? ⟨w.heap.size, 1, none⟩ = some (.slice a l.length c) := HSR.out.g.cell 1
    have hzg : w.heap.size < wr.heap.size := HSR.out.g.lt
    by_cases hlt : k < l.length
    · obtain ⟨b, o, hA, hbb, a1, c1, X0, X1, X2, _, n1, hd⟩ := batch_at (lift HL.out HSR.out.below) hlt
      subst hA
      have s1 := hid (sumB_step (fun b => b.entries.length) l k hlt)
      have S1 : Hid (nEntries (l.take (k + 1)) = nEntries (l.take k) + l[k].entries.length) := s1
      have t3 := sumB_take_le (fun b => b.entries.length) l (k + 1)
      rw [s1.out] at t3
      have g2 : nEntries (l.take k) + l[k].entries.length ≤ 100000 := Nat.le_trans t3 hn
      have hbz := batchR_facts (HBL.out _ (List.getElem_mem hlt))
      have hzp : l[k].base + (l[k].entries.length : Int) ≤ 4611686018427387904 := hbz.2.2.2.2.1
      have HMEM := hid (fun (j : Nat) (hj : j < l[k].entries.length) => flat_mem hlt hj)
      have HD := hid hd
      clear hd t3 s1 hbz
      generalize l[k] = z at *
      generalize nEntries (l.take k) = N at *
      obtain ⟨wo, hwo⟩ : ∃ wo : World, wo = wr := ⟨_, rfl⟩
      subst hwo
      have i1 : (k : Int) < (l.length : Int) := by omega
      go_wp2_with fail
      go_loopw [9, 11] (fun s i wq => ∃ j : Nat, j ≤ z.entries.length ∧ i = .int .i64 j ∧ s = .int .i64 (N + j : Nat) ∧ Below wo.heap.size wo wq) (fun _ i _ => z.entries.length - (intOf i).toNat)
      case atStart => exact ⟨0, Nat.zero_le _, rfl, rfl, Below.refl _ _⟩
      case round =>
        obtain ⟨j, hj, rfl, rfl, hq⟩ := hrel
        have HSQ := hid (HSR.out.later hq)
        have g1q : wr.cell? ⟨w.heap.size, 1, none⟩ = some (.slice (some ⟨b, o, none⟩) l.length c) := HSQ.out.g.cell 1
        have h0q : wr.cell? ⟨w.heap.size + 1, 0, none⟩ = some (.int .u64 ec) := HSQ.out.h.cell 0
        have h1q : wr.cell? ⟨w.heap.size + 1, 1, none⟩ = some (.slice a' lc.length c') := HSQ.out.h.cell 1
        have Y0 : wr.cell? ⟨b, o + k * 3, none⟩ = some (.int .u64 z.epoch) := (Later.mk wr hq).cell X0
        have Y1 : wr.cell? ⟨b, o + k * 3 + 1, none⟩ = some (.int .u64 z.base) := (Later.mk wr hq).cell X1
        have Y2 : wr.cell? ⟨b, o + k * 3 + 2, none⟩ = some (.slice a1 z.entries.length c1) := (Later.mk wr hq).cell X2
        by_cases hjl : j < z.entries.length
        · have j1 : (j : Int) < (z.entries.length : Int) := by omega
          have hp0 : 0 ≤ z.base + (j : Int) ∧ z.base + (j : Int) ≤ 18446744073709551615 := by omega
          have dp1 : decide (z.base + (j : Int) < 0) = false := decide_eq_false (by omega)
          have dp2 : decide ((9223372036854775808 : Int) ≤ z.base + (j : Int)) = false := decide_eq_false (by omega)
          have hNj : N + j + 1 ≤ 100000 := by omega
          have hm := HMEM.out j hjl
          go_wp2_with fail
          refine (HEN.out _ HSQ.out.below _ hp0).mono ?_
          rintro r w5 ⟨hr, hb5⟩
          rw [← HFL.out] at hm
          obtain ⟨i', k', hi', hk', heq⟩ := mem_flat hm
          have hpos : z.base + (j : Int) = lc[i'].base + (k' : Int) := congrArg (fun t => t.1) heq
          obtain ⟨ef, hef⟩ := findS_at hi' hk'
          unfold EntAp at hr
          rw [hpos, hef] at hr
          dsimp only at hr
          obtain ⟨i2, k2, hi2, hk2, ⟨hen, hp2⟩, rfl⟩ := hr
          have hu := flat_uniq HCH.out (flat_mem hi2 hk2) hm (by dsimp only; rw [hp2, hpos])
          simp only [Prod.mk.injEq] at hu
          obtain ⟨_, hue, hux⟩ := hu
          have HSV := hid (HSQ.out.later hb5)
          obtain ⟨b5, o5, hA5, hbb5, a6, c6, P0, P1, P2, _, _, hd5⟩ := batch_at (lift HLC.out HSV.out.below) hi2
          obtain ⟨b6, o6, hA6, hbb6, a7, c7, a8, c8, R0, R1, hd7, hd8⟩ := entry_at hd5 hk2
          obtain ⟨b7, o7, hA7, hbb7, a9, c9, a10, c10, U0, U1, hd9, hd10⟩ := entry_at (lift HD.out (below_then hb5 hq)) hjl
          subst hA5 hA6 hA7
          have hdd : decide (z.entries[j] = lc[i2].entries[k2]) = true := decide_eq_true hux.symm
          have HDD := hid hdd
          have hde : (z.epoch != lc[i2].epoch) = false := by simp [hue]
          have i5 : (i2 : Int) < (lc.length : Int) := by omega
          have k5 : (k2 : Int) < (lc[i2].entries.length : Int) := by omega
          have HD7 := hid hd7
          have HD8 := hid hd8
          have HD9 := hid hd9
          have HD10 := hid hd10
          clear hdd hd5 hd7 hd8 hd9 hd10 hue hux hen hp2 hef hpos hm heq
          generalize lc[i2].entries[k2] = q2 at *
          generalize z.entries[j] = q1 at *
          generalize lc[i2] = z2 at *
          have HSE := hid (fun s : Later w5 => ref24_same q1 q2 a9 a7 a10 a8 _ c9 _ c7 _ c10 _ c8 s.at_ (lift HD9.out s.below) (lift HD10.out s.below) (lift HD7.out s.below) (lift HD8.out s.below))
          rw [HDD.out] at HSE
          have G1 := fun s : Later w5 => s.cell ((Later.mk w5 hb5).cell g1q)
          have H1 := fun s : Later w5 => s.cell ((Later.mk w5 hb5).cell h1q)
          have E0 := fun s : Later w5 => s.cell ((Later.mk w5 hb5).cell Y0)
          have E2 := fun s : Later w5 => s.cell ((Later.mk w5 hb5).cell Y2)
          have V0 := fun s : Later w5 => s.cell P0
          have V2 := fun s : Later w5 => s.cell P2
          have L0 := fun s : Later w5 => s.cell R0
          have L1 := fun s : Later w5 => s.cell R1
          have M0 := fun s : Later w5 => s.cell U0
          have M1 := fun s : Later w5 => s.cell U1
          have dj : decide ((i2 : Int) < 0) = false := decide_eq_false (by omega)
          have i50 : (0 : Int) ≤ (i2 : Int) := by omega
          have hq5 := hid (below_then hb5 hq)
          clear P0 P1 P2 R0 R1 U0 U1 Y0 Y1 Y2 g1q h0q h1q
          go_wp2_with fail
          refine wp_region_later (by kernel_rfl) (by kernel_rfl) ?_
          repeat (go_big_quiet_step ((go_at_call 54; with_reducible exact later_of (HSE.out _))))
          refine wpQuiet_nil ?_
          rintro V ⟨⟨V', hbV⟩, rfl⟩
          clear G1 H1 E0 E2 V0 V2 L0 L1 M0 M1
          go_wp2
          go_roundw
          case rel => exact ⟨j + 1, by omega, by go_num, congrArg (Value.int .i64) (by omega), below_then hbV hq5.out⟩
          case measure => simp [intOf]; omega
        · obtain rfl : j = z.entries.length := by omega
          go_wp2
          go_roundw
          case rel => exact ⟨k + 1, by omega, by go_num, by rw [S1.out], below_then hq hb⟩
          case measure => simp [intOf]; omega
    · obtain rfl : k = l.length := by omega
      rw [List.take_length]
      have h0q : wr.cell? ⟨w.heap.size + 1, 0, none⟩ = some (.int .u64 ec) := HSR.out.h.cell 0
      have h1q : wr.cell? ⟨w.heap.size + 1, 1, none⟩ = some (.slice a' lc.length c') := HSR.out.h.cell 1
      rw [← HNN.out]
      go_wp2_with fail
      refine (HCO.out _ HSR.out.below).mono ?_
      rintro r w5 ⟨rfl, hb5⟩
      have hbe := below_then hb5 HSR.out.below
      have de : (((nEntries lc : Nat) : Int) == ((nEntries lc : Nat) : Int)) = true := by simp
      go_wp2
      go_ret
      exact ⟨rfl, hbe⟩
end Go.Proofs.YtkipiefcnjfdjaaGreat
namespace Go.Proofs.YtkipiefcnjfdjaaGreat
open Go.RowKit Go.Bs
set_option linter.unusedVariables false
set_option linter.unusedSimpArgs false

structure LawC (w W : World) (ep : Int) (a : Option Addr) (n c : Nat) (B3 : Nat) (lc : List Batch) (a3 : Option Addr) (c3 : Nat) : Prop where
  below : Below w.heap.size w W
  g : Blk W w.heap.size 62 #[.int .u64 ep, .slice a n c]
  cb : Blk W B3 62 #[.int .u64 ep, .slice a3 lc.length c3]
  vc : rBatches.r (· < W.heap.size) W [.slice a3 lc.length c3] lc
theorem LawC.later {w W W' : World} {ep : Int} {a : Option Addr} {n c B3 : Nat} {lc : List Batch} {a3 : Option Addr} {c3 : Nat} (h : LawC w W ep a n c B3 lc a3 c3) (hb : Below W.heap.size W W') : LawC w W' ep a n c B3 lc a3 c3 := ⟨below_then hb h.below, h.g.later hb, h.cb.later hb, lift h.vc hb⟩
theorem fairs_of {l : List Batch} (h : ∀ b ∈ l, batchR b = true) : ∀ b ∈ l, Fair b.entries := fun b hb => (fair_of (h b hb)).1
theorem nEntries_le {l : List Batch} (h : ∀ b ∈ l, batchR b = true) (hl : l.length ≤ 16) : nEntries l ≤ 1000 ∧ nBytes l ≤ 1000000000 := by
  have h1 : nEntries l ≤ 16 * l.length := count_le fun b hb => (batchR_facts (h b hb)).2.2.2.1
  have h2 : nBytes l ≤ 1048576 * l.length := count_le fun b hb => (batchR_facts (h b hb)).2.2.2.2.2
  omega

set_option maxRecDepth 100000 in
set_option maxHeartbeats 12800000 in
theorem segmentCompacts_c (ep : Int) (l : List Batch) (a : Option Addr) (n c : Nat) (w : World) (h0 : 0 ≤ ep ∧ ep ≤ 18446744073709551615) (hl : rBatches.r (· < w.heap.size) w [.slice a n c] l) :
    Calls Tryz.prog 9 #[.agg #[.int .u64 ep, .slice a n c]] w fun r w' => r = .returned (.bool true) ∧ Below w.heap.size w w' := by
  obtain ⟨rfl, hm, _, _⟩ := sl_len hl
  have H34 := hid (fun (W : World) (hW : Below w.heap.size w W) => law34_long ep l a _ c W (lift hl hW))
  have HL := hid hl
  have HI0 : Hid (LawF w (w.alloc (.cells #[.int .u64 ep, .slice a l.length c] 62)) ep a l.length c) := hid ⟨below_alloc (Below.refl _ _) _, Blk.new w _ _⟩
  clear hl
  cases hl1 : long34 l
  · rw [hl1] at H34
    obtain ⟨hL20, hLs⟩ := long34_no hl1
    have hfair : ∀ x ∈ l, Fair x.entries := fun x hx => (tame_fair (hLs x hx)).1
    have HCP := hid (fun (W : World) (hW : Below w.heap.size w W) => segment_compact ep l a _ c W h0 (lift HL.out hW) hfair)
    have HR := hid (fun (W : World) (hW : Below w.heap.size w W) => ref34_right ep l a _ c W h0 (lift HL.out hW) hfair)
    clear hl1 hLs hfair
    go_enter Tryz.func9, Tryz.ntmps9
    go_wp2_with fail
    refine (H34.out _ HI0.out.below).mono ?_
    rintro r w1 ⟨rfl, hb1⟩
    have HI1 := hid (HI0.out.later hb1)
    clear hb1
    have g0 : w1.cell? ⟨w.heap.size, 0, none⟩ = some (.int .u64 ep) := HI1.out.g.cell 0
    have g1 : w1.cell? ⟨w.heap.size, 1, none⟩ = some (.slice a l.length c) := HI1.out.g.cell 1
    go_wp2_with fail
    refine (HCP.out _ HI1.out.below).mono ?_
    rintro r w2 ⟨v3, e3, rfl, he3, hv3, hb2⟩
    obtain ⟨a3, c3, hf3, hv3', _⟩ := sl_form hv3
    simp only [List.cons.injEq, and_true] at hf3
    subst hf3
    have HI2 := hid (HI1.out.later hb2)
    have HV2 := hid (rBatches.mono (S' := (· < w2.heap.size)) hv3 fun q hq => hq.2)
    have HE3 := hid he3
    clear hv3 hv3' hb2 g0 g1 he3
    cases hs : segR ⟨ep, l⟩
    · rw [hs] at HR HE3 HV2
      simp only [Bool.false_eq_true, if_false] at HE3 HV2 ⊢
      obtain rfl : e3 = 0 := HE3.out
      have g0 : w2.cell? ⟨w.heap.size, 0, none⟩ = some (.int .u64 ep) := HI2.out.g.cell 0
      have g1 : w2.cell? ⟨w.heap.size, 1, none⟩ = some (.slice a l.length c) := HI2.out.g.cell 1
      have hzw : w.heap.size < w2.heap.size := HI2.out.g.lt
      clear hs
      go_wp2_with fail
      have hb23 : Below w2.heap.size w2 (w2.alloc (.cells #[.int .u64 0, .slice a3 0 c3] 62)) := by (repeat (first | with_reducible exact Below.refl _ _ | with_reducible assumption | (with_reducible refine below_alloc ?_ _) | (with_reducible refine Below.setCell ?_ (by first | omega | (simp; done) | (simp; omega)) _) | (with_reducible refine Below.drew ?_) | (with_reducible refine below_drewN ?_ _) | (refine below_then (by with_reducible assumption) ?_)))
      have hE3 := Blk.new w2 62 #[.int .u64 0, .slice a3 0 c3]
      generalize w2.alloc (.cells #[.int .u64 0, .slice a3 0 c3] 62) = w3 at *
      have HI3 := hid (HI2.out.later hb23)
      have HX3 := hid hE3
      have HV3 := hid (lift HV2.out hb23)
      clear hE3 hb23 g0 g1
      refine (HR.out _ HI3.out.below).mono ?_
      rintro r w4 ⟨rfl, hb4⟩
      have x4 := HX3.out.later hb4
      have x0 : w4.cell? ⟨w2.heap.size, 0, none⟩ = some (.int .u64 0) := x4.cell 0
      have x1 : w4.cell? ⟨w2.heap.size, 1, none⟩ = some (.slice a3 0 c3) := x4.cell 1
      have HI4 := hid (HI3.out.later hb4)
      have hsm := ref34_same 0 0 [] [] a3 none 0 c3 0 0 w4 (lift HV3.out hb4) (rSl_mk (xs := []) rfl (Nat.le_refl _) (Nat.zero_le _) (.inl rfl))
      rw [show decide ((⟨0, []⟩ : Seg) = ⟨0, []⟩) = true from decide_eq_true rfl] at hsm
      have HSM := hid hsm
      clear hsm x4 hb4
      go_wp2_with fail
      refine HSM.out.mono ?_
      rintro r w8 ⟨rfl, hb8⟩
      go_wp2_with fail
      refine (live34 _).mono ?_
      rintro r w9 ⟨rfl, hb9⟩
      have hbe := below_then hb9 (below_then hb8 HI4.out.below)
      go_wp2
      go_ret
      exact ⟨rfl, hbe⟩
    · rw [hs] at HR HE3 HV2
      simp only [eq_self, if_true] at HE3 HV2 ⊢
      obtain rfl : e3 = ep := HE3.out
      obtain ⟨hcR, hno⟩ := compL_right hs
      have hctw := compL_twice hs
      obtain ⟨_, hc16, hcall⟩ := segR_facts hcR
      have hlall := (segR_facts hs).2.2
      have hl16 : l.length ≤ 16 := (segR_facts hs).2.1
      have hlen := compL_len l
      have hflat := compL_flat l
      dsimp only at hcall hlall hc16
      have hne := nEntries_le hlall hl16
      have hnec := nEntries_le hcall hc16
      have HNO := hid hno
      have HCALL := hid hcall
      have hchain : ∃ e, chainR e none (compL l) = true := by
        simp only [segR, Bool.and_eq_true] at hcR
        exact ⟨_, hcR.2.2⟩
      have HSA := hid (fun (W : World) (hW : Below w.heap.size w W) (aC : Option Addr) (cC : Nat) (hC : rBatches.r (· < W.heap.size) W [.slice aC (compL l).length cC] (compL l)) => law34_same e3 e3 l (compL l) a aC _ c _ cC W (lift HL.out hW) hC hflat hchain hlall hcall (by omega) (by omega))
      have HCC := hid (fun (W : World) (aC : Option Addr) (cC : Nat) (hC : rBatches.r (· < W.heap.size) W [.slice aC (compL l).length cC] (compL l)) => segment_compact e3 (compL l) aC _ cC W h0 hC (fairs_of hcall))
      have HRC := hid (fun (W : World) (aC : Option Addr) (cC : Nat) (hC : rBatches.r (· < W.heap.size) W [.slice aC (compL l).length cC] (compL l)) => ref34_right e3 (compL l) aC _ cC W h0 hC (fairs_of hcall))
      rw [hcR] at HRC HCC
      simp only [eq_self, if_true] at HCC
      rw [hctw] at HCC
      clear hno hcall hlall hflat hne hnec hchain hctw hcR hs
      generalize compL l = lc at *
      have g0 : w2.cell? ⟨w.heap.size, 0, none⟩ = some (.int .u64 e3) := HI2.out.g.cell 0
      have g1 : w2.cell? ⟨w.heap.size, 1, none⟩ = some (.slice a l.length c) := HI2.out.g.cell 1
      have hzw : w.heap.size < w2.heap.size := HI2.out.g.lt
      go_wp2_with fail
      have hb23 : Below w2.heap.size w2 (w2.alloc (.cells #[.int .u64 e3, .slice a3 lc.length c3] 62)) := by (repeat (first | with_reducible exact Below.refl _ _ | with_reducible assumption | (with_reducible refine below_alloc ?_ _) | (with_reducible refine Below.setCell ?_ (by first | omega | (simp; done) | (simp; omega)) _) | (with_reducible refine Below.drew ?_) | (with_reducible refine below_drewN ?_ _) | (refine below_then (by with_reducible assumption) ?_)))
      have hJ3 : LawC w (w2.alloc (.cells #[.int .u64 e3, .slice a3 lc.length c3] 62)) e3 a l.length c w2.heap.size lc a3 c3 := ⟨below_then hb23 HI2.out.below, HI2.out.g.later hb23, Blk.new w2 _ _, lift HV2.out hb23⟩
      generalize w2.alloc (.cells #[.int .u64 e3, .slice a3 lc.length c3] 62) = w3 at *
      have HJ3 := hid hJ3
      clear hJ3 hb23 g0 g1 HV2
      refine (HR.out _ HJ3.out.below).mono ?_
      rintro r w4 ⟨rfl, hb4⟩
      have HJ4 := hid (HJ3.out.later hb4)
      have x0 : w4.cell? ⟨w2.heap.size, 0, none⟩ = some (.int .u64 e3) := HJ4.out.cb.cell 0
      have x1 : w4.cell? ⟨w2.heap.size, 1, none⟩ = some (.slice a3 lc.length c3) := HJ4.out.cb.cell 1
      clear hb4
      go_wp2_with fail
      refine (HCC.out w4 a3 c3 HJ4.out.vc).mono ?_
      rintro r w5 ⟨v5, e5, rfl, rfl, hv5, hb5⟩
      obtain ⟨a5, c5, hf5, hv5', _⟩ := sl_form hv5
      simp only [List.cons.injEq, and_true] at hf5
      subst hf5
      have HJ5 := hid (HJ4.out.later hb5)
      have HV5 := hid (rBatches.mono (S' := (· < w5.heap.size)) hv5 fun q hq => hq.2)
      clear hv5 hv5' hb5 x0 x1
      go_wp2_with fail
      have hb56 : Below w5.heap.size w5 (w5.alloc (.cells #[.int .u64 e5, .slice a5 lc.length c5] 62)) := by (repeat (first | with_reducible exact Below.refl _ _ | with_reducible assumption | (with_reducible refine below_alloc ?_ _) | (with_reducible refine Below.setCell ?_ (by first | omega | (simp; done) | (simp; omega)) _) | (with_reducible refine Below.drew ?_) | (with_reducible refine below_drewN ?_ _) | (refine below_then (by with_reducible assumption) ?_)))
      have hD6 := Blk.new w5 62 #[.int .u64 e5, .slice a5 lc.length c5]
      generalize w5.alloc (.cells #[.int .u64 e5, .slice a5 lc.length c5] 62) = w6 at *
      have HJ6 := hid (HJ5.out.later hb56)
      have HD6 := hid hD6
      have HV6 := hid (lift HV5.out hb56)
      clear hD6 hb56 HV5
      go_loopw [7] (fun i wr => ∃ k : Nat, 1 ≤ k ∧ k ≤ lc.length + 1 ∧ i = .int .i64 k ∧ Below w6.heap.size w6 wr) (fun i _ => lc.length + 1 - (intOf i).toNat)
      case atStart => exact ⟨1, Nat.le_refl _, by omega, rfl, Below.refl _ _⟩
      case round =>
        obtain ⟨k, hk1, hk2, rfl, hb⟩ := hrel
        have HJ := hid (HJ6.out.later hb)
        have x0 : wr.cell? ⟨w2.heap.size, 0, none⟩ = some (.int .u64 e5) := HJ.out.cb.cell 0
        have x1 : wr.cell? ⟨w2.heap.size, 1, none⟩ = some (.slice a3 lc.length c3) := HJ.out.cb.cell 1
        by_cases hlt : k < lc.length
        · obtain ⟨j, rfl⟩ : ∃ j, k = j + 1 := ⟨k - 1, by omega⟩
          obtain ⟨b, o, hA, hbb, ax, cx, X0, X1, X2, _, _, hdx⟩ := batch_at HJ.out.vc (i := j) (by omega)
          obtain ⟨b2, o2, hA2, hbb2, ay, cy, Y0, Y1, Y2, _, _, hdy⟩ := batch_at HJ.out.vc hlt
          rw [hA] at hA2
          simp only [Option.some.injEq, Addr.mk.injEq, and_true] at hA2
          obtain ⟨rfl, rfl⟩ := hA2
          subst hA
          have hjn := HNO.out j hlt
          have hbx' := batchR_facts (HCALL.out _ (List.getElem_mem (show j < lc.length by omega)))
          have hby' := batchR_facts (HCALL.out _ (List.getElem_mem hlt))
          have HDX := hid hdx
          have HDY := hid hdy
          have i1 : (j : Int) + 1 < (lc.length : Int) := by omega
          have i2 : (j : Int) < (lc.length : Int) := by omega
          have dk : ((j + 1 : Nat) : Int) = (j : Int) + 1 := by omega
          have HJN := hid hjn
          clear hjn hdx hdy
          generalize lc[j] = x at *
          generalize lc[j + 1] = y at *
          have hxb : x.base + (x.entries.length : Int) ≤ 4611686018427387904 := hbx'.2.2.2.2.1
          have hxl : x.entries.length ≤ 16 := hbx'.2.2.2.1
          have hyl : y.entries.length ≤ 16 := hby'.2.2.2.1
          have htx : total x.entries ≤ 1048576 := hbx'.2.2.2.2.2
          have hty : total y.entries ≤ 1048576 := hby'.2.2.2.2.2
          clear hbx' hby'
          have hz2 : w2.heap.size < wr.heap.size := HJ.out.cb.lt
          have hbb' : b < wr.heap.size := hbb
          go_upto_region 10 with (fail)
          go_cut [8, 9] from 36 to 88 (fun s8 s9 V => ∃ ga gb : Nat, s8 = .pointer (some ⟨ga, 0, none⟩) ∧ s9 = .pointer (some ⟨gb, 0, none⟩) ∧ Blk V ga 25 #[.int .u64 x.epoch, .int .u64 x.base, .slice ax x.entries.length cx] ∧ Blk V gb 25 #[.int .u64 y.epoch, .int .u64 y.base, .slice ay y.entries.length cy] ∧ Below wr.heap.size wr V)
          case first =>
            go_big_region
            · go_wp2_with fail
              go_meet
              case rel => exact ⟨wr.heap.size, wr.heap.size + 1, rfl, rfl, ((Blk.new wr _ _).alloc _).drew, (Blk.new1 wr _ _ _).drew, by (repeat (first | with_reducible exact Below.refl _ _ | with_reducible assumption | (with_reducible refine below_alloc ?_ _) | (with_reducible refine Below.setCell ?_ (by first | omega | (simp; done) | (simp; omega)) _) | (with_reducible refine Below.drew ?_) | (with_reducible refine below_drewN ?_ _) | (refine below_then (by with_reducible assumption) ?_)))⟩
            · go_wp2_with fail
              go_meet
              case rel => exact ⟨wr.heap.size + 1, wr.heap.size, rfl, rfl, (Blk.new1 wr _ _ _).drew, ((Blk.new wr _ _).alloc _).drew, by (repeat (first | with_reducible exact Below.refl _ _ | with_reducible assumption | (with_reducible refine below_alloc ?_ _) | (with_reducible refine Below.setCell ?_ (by first | omega | (simp; done) | (simp; omega)) _) | (with_reducible refine Below.drew ?_) | (with_reducible refine below_drewN ?_ _) | (refine below_then (by with_reducible assumption) ?_)))⟩
          case rest =>
            obtain ⟨ga, gb, rfl, rfl, hbx, hby, hbV⟩ := hcut
            have HBV := hid hbV
            have A0 := fun s : Later wc => s.cell (show wc.cell? ⟨ga, 0, none⟩ = some (.int .u64 x.epoch) from hbx.cell 0)
            have A1 := fun s : Later wc => s.cell (show wc.cell? ⟨ga, 1, none⟩ = some (.int .u64 x.base) from hbx.cell 1)
            have A2 := fun s : Later wc => s.cell (show wc.cell? ⟨ga, 2, none⟩ = some (.slice ax x.entries.length cx) from hbx.cell 2)
            have C0 := fun s : Later wc => s.cell (show wc.cell? ⟨gb, 0, none⟩ = some (.int .u64 y.epoch) from hby.cell 0)
            have C1 := fun s : Later wc => s.cell (show wc.cell? ⟨gb, 1, none⟩ = some (.int .u64 y.base) from hby.cell 1)
            have C2 := fun s : Later wc => s.cell (show wc.cell? ⟨gb, 2, none⟩ = some (.slice ay y.entries.length cy) from hby.cell 2)
            have HTX := hid (fun s : Later wc => law34_bytesOf x ax _ cx s.at_ (lift HDX.out (below_then s.below HBV.out)) (by omega))
            have HTY := hid (fun s : Later wc => law34_bytesOf y ay _ cy s.at_ (lift HDY.out (below_then s.below HBV.out)) (by omega))
            clear hbx hby hbV X0 X1 X2 Y0 Y1 Y2 x0 x1
            by_cases h1 : x.epoch = y.epoch
            · have d1 : (x.epoch == y.epoch) = true := by simp [h1]
              by_cases h2 : x.base + (x.entries.length : Int) = y.base
              · have d2 : (x.base + (x.entries.length : Int) == y.base) = true := by simp [h2]
                by_cases h3 : x.entries.length + y.entries.length ≤ 16
                · have h4 : ¬ total x.entries + total y.entries ≤ 1048576 := fun h4 => by
                    have := HJN.out
                    simp only [jn, decide_eq_false_iff_not] at this
                    exact this ⟨h1, h2, h3, h4⟩
                  have d3 : decide ((x.entries.length : Int) + (y.entries.length : Int) ≤ 16) = true := decide_eq_true (by omega)
                  have d4 : decide ((total x.entries : Int) + (total y.entries : Int) ≤ 1048576) = false := decide_eq_false (by omega)
                  clear h1 h2 h3 h4
                  go_wp2_with fail
                  refine wp_region_later (by kernel_rfl) (by kernel_rfl) ?_
                  repeat (go_big_quiet_step ((go_at_call 47; first | with_reducible exact later_of (HTX.out _) | with_reducible exact later_of (HTY.out _))))
                  refine wpQuiet_nil ?_
                  rintro V ⟨⟨V', hbV⟩, rfl⟩
                  clear A0 A1 A2 C0 C1 C2 HTX HTY
                  have hbb2 := below_then hbV HBV.out
                  go_wp2
                  go_roundw
                  case rel => exact ⟨j + 1 + 1, by omega, by omega, by go_num, below_then hbb2 hb⟩
                  case measure => simp [intOf]; omega
                · have d3 : decide ((x.entries.length : Int) + (y.entries.length : Int) ≤ 16) = false := decide_eq_false (by omega)
                  clear h1 h2 h3
                  go_wp2_with fail
                  refine wp_region_later (by kernel_rfl) (by kernel_rfl) ?_
                  repeat (go_big_quiet_step ((go_at_call 47; first | with_reducible exact later_of (HTX.out _) | with_reducible exact later_of (HTY.out _))))
                  refine wpQuiet_nil ?_
                  rintro V ⟨⟨V', hbV⟩, rfl⟩
                  clear A0 A1 A2 C0 C1 C2 HTX HTY
                  have hbb2 := below_then hbV HBV.out
                  go_wp2
                  go_roundw
                  case rel => exact ⟨j + 1 + 1, by omega, by omega, by go_num, below_then hbb2 hb⟩
                  case measure => simp [intOf]; omega
              · have d2 : (x.base + (x.entries.length : Int) == y.base) = false := beq_eq_false_iff_ne.2 h2
                clear h1 h2
                go_wp2_with fail
                refine wp_region_later (by kernel_rfl) (by kernel_rfl) ?_
                repeat (go_big_quiet_step ((go_at_call 47; first | with_reducible exact later_of (HTX.out _) | with_reducible exact later_of (HTY.out _))))
                refine wpQuiet_nil ?_
                rintro V ⟨⟨V', hbV⟩, rfl⟩
                clear A0 A1 A2 C0 C1 C2 HTX HTY
                have hbb2 := below_then hbV HBV.out
                go_wp2
                go_roundw
                case rel => exact ⟨j + 1 + 1, by omega, by omega, by go_num, below_then hbb2 hb⟩
                case measure => simp [intOf]; omega
            · have d1 : (x.epoch == y.epoch) = false := beq_eq_false_iff_ne.2 h1
              clear h1
              go_wp2_with fail
              refine wp_region_later (by kernel_rfl) (by kernel_rfl) ?_
              repeat (go_big_quiet_step ((go_at_call 47; first | with_reducible exact later_of (HTX.out _) | with_reducible exact later_of (HTY.out _))))
              refine wpQuiet_nil ?_
              rintro V ⟨⟨V', hbV⟩, rfl⟩
              clear A0 A1 A2 C0 C1 C2 HTX HTY
              have hbb2 := below_then hbV HBV.out
              go_wp2
              go_roundw
              case rel => exact ⟨j + 1 + 1, by omega, by omega, by go_num, below_then hbb2 hb⟩
              case measure => simp [intOf]; omega
        · have dk : decide ((k : Int) < (lc.length : Int)) = false := decide_eq_false (by omega)
          have hbw := HJ.out.below
          have hDr := HD6.out.later hb
          have d0 : wr.cell? ⟨w5.heap.size, 0, none⟩ = some (.int .u64 e5) := hDr.cell 0
          have d1 : wr.cell? ⟨w5.heap.size, 1, none⟩ = some (.slice a5 lc.length c5) := hDr.cell 1
          have HV7 := hid (lift HV6.out hb)
          clear hDr
          go_wp2_with fail
          refine (HRC.out wr a3 c3 HJ.out.vc).mono ?_
          rintro r w7 ⟨rfl, hb7⟩
          have HJ7 := hid (HJ.out.later hb7)
          have q0 : w7.cell? ⟨w5.heap.size, 0, none⟩ = some (.int .u64 e5) := (Later.mk w7 hb7).cell d0
          have q1 : w7.cell? ⟨w5.heap.size, 1, none⟩ = some (.slice a5 lc.length c5) := (Later.mk w7 hb7).cell d1
          have y0 : w7.cell? ⟨w2.heap.size, 0, none⟩ = some (.int .u64 e5) := HJ7.out.cb.cell 0
          have y1 : w7.cell? ⟨w2.heap.size, 1, none⟩ = some (.slice a3 lc.length c3) := HJ7.out.cb.cell 1
          have hsm := ref34_same e5 e5 lc lc a5 a3 _ c5 _ c3 w7 (lift HV7.out hb7) HJ7.out.vc
          rw [decide_eq_true rfl] at hsm
          have HSM := hid hsm
          clear hsm d0 d1 x0 x1 hb7
          go_wp2_with fail
          refine HSM.out.mono ?_
          rintro r w8 ⟨rfl, hb8⟩
          have HJ8 := hid (HJ7.out.later hb8)
          have z0 : w8.cell? ⟨w2.heap.size, 0, none⟩ = some (.int .u64 e5) := HJ8.out.cb.cell 0
          have z1 : w8.cell? ⟨w2.heap.size, 1, none⟩ = some (.slice a3 lc.length c3) := HJ8.out.cb.cell 1
          have g0 : w8.cell? ⟨w.heap.size, 0, none⟩ = some (.int .u64 e5) := HJ8.out.g.cell 0
          have g1 : w8.cell? ⟨w.heap.size, 1, none⟩ = some (.slice a l.length c) := HJ8.out.g.cell 1
          have dl : decide ((lc.length : Int) ≤ (l.length : Int)) = true := decide_eq_true (by omega)
          clear q0 q1 y0 y1 hb8
          go_wp2_with fail
          refine (HSA.out w8 HJ8.out.below a3 c3 HJ8.out.vc).mono ?_
          rintro r w9 ⟨rfl, hb9⟩
          go_wp2_with fail
          refine (live34 _).mono ?_
          rintro r w10 ⟨rfl, hb10⟩
          have hbe := below_then hb10 (below_then hb9 HJ8.out.below)
          go_wp2
          go_ret
          exact ⟨rfl, hbe⟩
  · rw [hl1] at H34
    clear hl1
    go_enter Tryz.func9, Tryz.ntmps9
    go_wp2_with fail
    refine (H34.out _ HI0.out.below).mono ?_
    rintro r w1 ⟨rfl, hb1⟩
    have HI1 := hid (HI0.out.later hb1)
    go_wp2_with fail
    refine (live34 _).mono ?_
    rintro r w9 ⟨rfl, hb9⟩
    have hbe := below_then hb9 HI1.out.below
    go_wp2
    go_ret
    exact ⟨rfl, hbe⟩

set_option maxRecDepth 100000 in
theorem segmentCompacts_walk {H : Type} (enc : TypeId × Value → H) (W : World) (base : Nat) (v0 : Value) (d0 : DataW H) (p0 : List MemPlace)
    (k0 : DataW.Trod enc Tryz.prog W 0 (fun _ => true) true 62 v0 d0 p0)
    (o0 : Value.okWide Tryz.prog W .any base 62 v0) :
    Calls Tryz.prog 9 #[v0] W fun e w' => e = .returned (.bool true) ∧ Below W.heap.size W w' := by
  obtain ⟨ep, l, a, n, c, rfl, h0, hl⟩ := seg_arg enc W base v0 d0 p0 k0 o0
  exact segmentCompacts_c ep l a n c W h0 hl
end Go.Proofs.YtkipiefcnjfdjaaGreat
