/- Needed by segmentAppends_walk, part 1: texts put together by shake.py; no condition. -/
import Derived.Test.YtkipiefcnjfdjaaGreatW5
import Derived.ProofKit
import Derived.OpenShut
import Derived.Deep.Slices
import Derived.Lib.SmallJoins
import Derived.WalkKit
import Derived.WalkLawsBesides
import Derived.WalkSpells
import Derived.Outline
import Derived.BigQuiet
import Derived.Deep.QuietTactic
import Derived.Maps.AppendAt
import Derived.Deep.AppendLies
import Derived.Deep.RegionLaw
import Derived.Laws.IdiomStrings
import Derived.Laws.BytesArg
import Derived.Test.YtkipiefcnjfdjaaGreatRows
import Derived.Laws.Bits64
import Derived.Lib.SlBytesConst
import Derived.StillTailTactics
import Derived.Maps.OwnOps
import Derived.Maps.Views
import Derived.Sort.QuietThIn
import Derived.Sort.BigQuietIn
import Derived.Sort.QuietTacIn
import Derived.RangeFuncNested
import Derived.RangeFuncBound
import Derived.RangeFuncCalls
import Derived.RangeFuncLeaves
import Derived.Shelf.Abstract
import Derived.Shelf.RegionOpen
import Derived.OwnWalkIn
import Derived.TacticsInMore
import Derived.LoopNIn
import Derived.LoopIn
import Derived.Maps.OwnIn
import Derived.StillTail
import Derived.RegionTactic
import Derived.OrdersHeld
import Derived.Deep.RegionHeld
import Derived.BigRegion
import Derived.Deep.Cut
import Derived.Deep.RegionHeld3
import Derived.IntWalk
import Derived.ScopeJumps
import Derived.WalkMore
import Derived.Laws.MakeOwn
import Derived.Lib.ConvBytes
import Derived.Laws.AppendOwn
import Derived.Laws.BitsAllLaws
namespace Go.Bs
open Go.RowKit
set_option linter.unusedVariables false

section
variable {S : Nat → Prop} {w : World} {cs : List Value}

theorem seg_cells {x : Seg} (h : rSeg.r S w cs x) : ∃ a c, cs = [.int .u64 x.epoch, .slice a x.batches.length c] ∧ (0 ≤ x.epoch ∧ x.epoch ≤ 18446744073709551615) ∧ rBatches.r S w [.slice a x.batches.length c] x.batches := by
  obtain ⟨c1, c2, rfl, ⟨rfl, hw⟩, h2⟩ := h
  obtain ⟨a, c, rfl, h3, _⟩ := sl_form h2
  exact ⟨a, c, rfl, bounds_u64 hw, h3⟩

end

/-! What is well-formed. -/
end Go.Bs
namespace Go.Bs
open Go.RowKit
set_option linter.unusedVariables false
theorem OwnElsF.app {α : Type} {w w' : World} {F : Nat → Prop} {A : Rp α} {base : Nat} {e : TypeId} {sz : Nat} {v v' : Value} {xs ys : List α} {news : List (List Value)} {cells : List (List Value)} (h : OwnElsF F A base e sz w v xs cells) (hF : ∀ b, F b → b < w.heap.size)
    (hl : news.length = ys.length) (hn : ∀ c ∈ news, c.length = sz) (hx : ∀ (i : Nat) cs y, news[i]? = some cs → ys[i]? = some y → A.r (fun b => F b ∧ v.ownBlock ≠ some b) w cs y)
    (hown : w'.ownsRow base e sz v' (xs.length + ys.length) (cells.flatten ++ news.flatten)) (hg : w.grownBy w' v.ownBlock) (hat : v'.ownBlock = v.ownBlock ∨ v'.ownBlock = some w.heap.size) : OwnElsF F A base e sz w' v' (xs ++ ys) (cells ++ news) := by
  obtain ⟨ho, hlen, hsz, hA⟩ := h
  have lift : ∀ cs y, A.r (fun b => F b ∧ v.ownBlock ≠ some b) w cs y → A.r (fun b => F b ∧ v'.ownBlock ≠ some b) w' cs y := fun cs y hr =>
    A.mono (A.keep hr fun b hb => hg.block b (hF b hb.1) (fun e => hb.2 e.symm)) fun b hb => ⟨hb.1, fun e => by
      rcases hat with h | h
      · exact hb.2 (h ▸ e)
      · rw [h] at e; have := Option.some.inj e; have := hF b hb.1; omega⟩
  refine ⟨?_, by simp [hlen, hl], ?_, ?_⟩
  · rw [List.flatten_append, List.length_append]
    exact hown
  · intro c hc
    rcases List.mem_append.1 hc with h | h
    · exact hsz c h
    · exact hn c h
  · intro i cs y hi hy
    by_cases hlt : i < xs.length
    · rw [List.getElem?_append_left (by omega)] at hi
      rw [List.getElem?_append_left hlt] at hy
      exact lift _ _ (hA i cs y hi hy)
    · rw [List.getElem?_append_right (by omega), hlen] at hi
      rw [List.getElem?_append_right (by omega)] at hy
      exact lift _ _ (hx _ _ _ hi hy)
theorem sl_cells {α : Type} {sz : Nat} {A : Rp α} {S : Nat → Prop} {w : World} {a : Option Addr} {n c : Nat} {xs : List α} (h : (rSl sz A).r S w [.slice a n c] xs) (hone : ∀ cs x, A.r S w cs x → ∀ u ∈ cs, u.oneCell' = true) :
    ∃ cells : List (List Value), cells.length = xs.length ∧ (∀ c ∈ cells, c.length = sz) ∧ (∀ (i : Nat) cs x, cells[i]? = some cs → xs[i]? = some x → A.r S w cs x) ∧ (∀ w' : World, (∀ q, S q → w'.heap[q]? = w.heap[q]?) → Src w' a xs.length sz cells.flatten) ∧ ∀ u ∈ cells.flatten, u.oneCell' = true := by
  obtain ⟨a', c', e, h1, h2, h3⟩ := h
  simp at e
  obtain ⟨rfl, rfl, rfl⟩ := e
  rcases h3 with rfl | ⟨b, off, rfl, hS, hr⟩
  · exact ⟨[], rfl, by simp, by simp, fun _ _ => ⟨by simp, .inl rfl⟩, by simp⟩
  · have hc : ∀ i : Fin xs.length, ∃ cs : List Value, cs.length = sz ∧ (∀ j v, cs[j]? = some v → w.cell? ⟨b, off + i.1 * sz + j, none⟩ = some v) ∧ A.r S w cs xs[i] := fun i => hr i.1 xs[i] (List.getElem?_eq_getElem i.2)
    obtain ⟨f, hf⟩ := Classical.axiomOfChoice hc
    have hlen : ∀ c ∈ List.ofFn f, c.length = sz := fun c hc => by
      obtain ⟨i, rfl⟩ := List.mem_ofFn.1 hc
      exact (hf i).1
    refine ⟨List.ofFn f, by simp, hlen, fun i cs x hi hx => ?_, fun w' hkp => ⟨?_, .inr ⟨b, off, rfl, fun j u hu => ?_⟩⟩, fun u hu => ?_⟩
    · have hil := (List.getElem?_eq_some_iff.1 hx).1
      rw [List.getElem?_ofFn, dif_pos hil] at hi
      injection hi with hi
      subst hi
      rw [List.getElem?_eq_getElem hil] at hx
      injection hx with hx
      subst hx
      exact (hf ⟨i, hil⟩).2.2
    · rw [flatten_len sz _ hlen]; simp
    · have hj := (List.getElem?_eq_some_iff.1 hu).1
      rw [flatten_len sz _ hlen, List.length_ofFn] at hj
      have hs0 : 0 < sz := by rcases Nat.eq_zero_or_pos sz with h | h; · subst h; simp at hj
                              · exact h
      have hi : j / sz < xs.length := by rw [Nat.div_lt_iff_lt_mul hs0]; exact hj
      have hk : j % sz < (f ⟨j / sz, hi⟩).length := by rw [(hf _).1]; exact Nat.mod_lt _ hs0
      have e2 := flatten_at sz (List.ofFn f) hlen (j / sz) (j % sz) (f ⟨j / sz, hi⟩) _ (by rw [List.getElem?_ofFn, dif_pos hi]) (List.getElem?_eq_getElem hk)
      have e3 : j / sz * sz + j % sz = j := by rw [Nat.mul_comm]; exact Nat.div_add_mod j sz
      rw [e3, hu] at e2
      have e4 := (hf ⟨j / sz, hi⟩).2.1 (j % sz) u (by rw [List.getElem?_eq_getElem hk, ← e2])
      rw [show off + j = off + j / sz * sz + j % sz by omega]
      exact (World.cell?_of_block (a := ⟨b, off + j / sz * sz + j % sz, none⟩) (hkp b hS)).trans e4
    · obtain ⟨c, hc, hu⟩ := List.mem_flatten.1 hu
      obtain ⟨i, rfl⟩ := List.mem_ofFn.1 hc
      exact hone _ _ (hf i).2.2 u hu
theorem src_blk {w : World} {g : Nat} {t : TypeId} {cs : List Value} (h : Blk w g t cs.toArray) {sz : Nat} (hs : cs.length = sz) : Src w (some ⟨g, 0, none⟩) 1 sz cs := by
  refine ⟨by omega, .inr ⟨_, 0, rfl, fun j u hu => ?_⟩⟩
  rw [Nat.zero_add, Blk.cell h]
  simpa using hu
theorem batch_one {S : Nat → Prop} {w : World} (cs : List Value) (x : Batch) (h : rBatch.r S w cs x) : ∀ u ∈ cs, u.oneCell' = true := by
  obtain ⟨a, c, rfl, _⟩ := batch_cells h
  intro u hu
  simp at hu
  rcases hu with rfl | rfl | rfl <;> rfl
end Go.Bs
namespace Go.Proofs.YtkipiefcnjfdjaaGreat
open Go.RowKit Go.Bs
set_option linter.unusedVariables false
set_option linter.unusedSimpArgs false
theorem tame_fair {l : List Entry} (h : l.length ≤ 30 ∧ total l ≤ 300 ∧ ∀ x ∈ l, x.data.length ≤ 500 ∧ x.links.length ≤ 50 ∧ ∀ y ∈ x.links, y.backs.length ≤ 50) : Fair l ∧ l.length ≤ 1000000000000 ∧ ∀ z ∈ l, Mild z :=
  ⟨⟨by omega, by omega, fun e he x hx => by have := (h.2.2 e he).2.2 x hx; omega⟩, by omega, fun z hz => ⟨by have := (h.2.2 z hz).2.1; omega, by have := (h.2.2 z hz).1; omega, fun y hy => by have := (h.2.2 z hz).2.2 y hy; omega⟩⟩
theorem chainR_snoc (e : Int) (b : Batch) : ∀ (l : List Batch) (p : Option Batch), chainR e p (l ++ [b]) = (chainR e p l && (batchR b && mayR e (l.getLast?.or p) b))
  | [], p => by simp [chainR]
  | x :: l, p => by
    simp only [List.cons_append, chainR]
    rw [chainR_snoc e b l (some x)]
    have : (x :: l).getLast?.or p = l.getLast?.or (some x) := by
      rw [List.getLast?_cons]
      cases l.getLast? <;> rfl
    rw [this]
    cases batchR x <;> cases mayR e p x <;> simp
theorem prevB_last (l : List Batch) : prevB l l.length = l.getLast? := by
  unfold prevB
  rw [List.getLast?_eq_getElem?]
  split
  · rename_i h; obtain rfl := List.eq_nil_of_length_eq_zero h; rfl
  · rfl
theorem segR_app {ep : Int} {l : List Batch} {b : Batch} (hs : segR ⟨ep, l⟩ = true) (hb : batchR b = true) (h16 : ¬ l.length = 16) (hm : mayR ep (prevB l l.length) b = true) : segR ⟨ep, l ++ [b]⟩ = true := by
  have h1 := (segR_facts hs).2.1
  simp only [segR, Bool.and_eq_true, decide_eq_true_eq] at hs ⊢
  have h2 : l.length ≤ 16 := h1
  refine ⟨hs.1, by rw [List.length_append]; simp; omega, ?_⟩
  rw [chainR_snoc, hs.2.2, hb]
  rw [prevB_last] at hm
  simpa using hm
structure LawI (w W : World) (ep : Int) (a : Option Addr) (n c : Nat) (b : Batch) (ab : Option Addr) (nb cb : Nat) : Prop where
  below : Below w.heap.size w W
  g : Blk W w.heap.size 62 #[.int .u64 ep, .slice a n c]
  x : Blk W (w.heap.size + 1) 25 #[.int .u64 b.epoch, .int .u64 b.base, .slice ab nb cb]
theorem LawI.later {w W W' : World} {ep : Int} {a : Option Addr} {n c : Nat} {b : Batch} {ab : Option Addr} {nb cb : Nat} (h : LawI w W ep a n c b ab nb cb) (hb : Below W.heap.size W W') : LawI w W' ep a n c b ab nb cb :=
  ⟨below_then hb h.below, h.g.later hb, h.x.later hb⟩
structure LawH (w w4 W : World) (ep : Int) (a : Option Addr) (n c : Nat) (b : Batch) (ab : Option Addr) (nb cb : Nat) (gh : Nat) (e3 : Int) (a3 : Option Addr) (n3 c3 : Nat) : Prop extends LawI w W ep a n c b ab nb cb where
  later4 : Below w4.heap.size w4 W
  h : Blk W gh 62 #[.int .u64 e3, .slice a3 n3 c3]
theorem LawH.later {w w4 W W' : World} {ep : Int} {a : Option Addr} {n c : Nat} {b : Batch} {ab : Option Addr} {nb cb : Nat} {gh : Nat} {e3 : Int} {a3 : Option Addr} {n3 c3 : Nat} (h : LawH w w4 W ep a n c b ab nb cb gh e3 a3 n3 c3) (hb : Below W.heap.size W W') : LawH w w4 W' ep a n c b ab nb cb gh e3 a3 n3 c3 :=
  ⟨h.toLawI.later hb, below_then hb h.later4, h.h.later hb⟩

set_option maxRecDepth 100000 in
set_option maxHeartbeats 6400000 in
theorem segmentAppends_c (ep : Int) (l : List Batch) (b : Batch) (a : Option Addr) (n c : Nat) (ab : Option Addr) (nb cb : Nat) (w : World) (h0 : 0 ≤ ep ∧ ep ≤ 18446744073709551615) (hl : rBatches.r (· < w.heap.size) w [.slice a n c] l) (hbb : rBatch.r (· < w.heap.size) w [.int .u64 b.epoch, .int .u64 b.base, .slice ab nb cb] b) :
    Calls Tryz.prog 7 #[.agg #[.int .u64 ep, .slice a n c], .agg #[.int .u64 b.epoch, .int .u64 b.base, .slice ab nb cb]] w fun r w' => r = .returned (.bool true) ∧ Below w.heap.size w w' := by
  obtain ⟨rfl, hm, _, _⟩ := sl_len hl
  obtain ⟨a', c', hcs, hb0, hb1, hb⟩ := batch_cells hbb
  simp only [List.cons.injEq, Value.slice.injEq, and_true, true_and] at hcs
  obtain ⟨rfl, rfl, rfl⟩ := hcs
  obtain ⟨i0, hi, hz0, hz1, hz2⟩ := info_parts infoBatch
  have H34 := hid (fun (W : World) (hW : Below w.heap.size w W) => law34_long ep l a _ c W (lift hl hW))
  have H25 := hid (fun (W : World) (hW : Below w.heap.size w W) => law25_long b.epoch b.base b.entries ab _ cb W (lift hb hW))
  have HL := hid hl
  have HE := hid hb
  have HI0 : Hid (LawI w ((w.alloc (.cells #[.int .u64 ep, .slice a l.length c] 62)).alloc (.cells #[.int .u64 b.epoch, .int .u64 b.base, .slice ab b.entries.length cb] 25)) ep a l.length c b ab b.entries.length cb) := hid
    ⟨below_alloc (below_alloc (Below.refl _ _) _) _, (Blk.new w _ _).alloc _, Blk.new1 w _ _ _⟩
  clear hl hb hbb
  cases hl1 : long34 l
  · rw [hl1] at H34
    cases hl2 : long25 b.entries
    · rw [hl2] at H25
      obtain ⟨hL20, hLs⟩ := long34_no hl1
      obtain ⟨hfb, hmb⟩ := tame_fair (long25_no hl2)
      have hfair : ∀ x ∈ l, Fair x.entries := fun x hx => (tame_fair (hLs x hx)).1
      have hmild : ∀ x ∈ l, MildB x := fun x hx => (tame_fair (hLs x hx)).2
      have HA := hid (fun (W : World) (hW : Below w.heap.size w W) => segment_append ep l b a _ c ab _ cb W h0 (lift HL.out hW) hb0 hb1 (lift HE.out hW) hfair hfb hmild hmb)
      have HR := hid (fun (W : World) (hW : Below w.heap.size w W) => ref34_right ep l a _ c W h0 (lift HL.out hW) hfair)
      have HRB := hid (fun (W : World) (hW : Below w.heap.size w W) => ref25_right b ab _ cb W hb0 hb1 (lift HE.out hW) hfb)
      have HFR := hid hfair
      have HFB := hid hfb
      clear hl1 hl2 hLs hfb hmb hfair hmild
      go_enter Tryz.func7, Tryz.ntmps7
      go_wp2_with fail
      refine (H34.out _ HI0.out.below).mono ?_
      rintro r w1 ⟨rfl, hb1'⟩
      have HI1 := hid (HI0.out.later hb1')
      clear hb1'
      have x0 : w1.cell? ⟨w.heap.size + 1, 0, none⟩ = some (.int .u64 b.epoch) := HI1.out.x.cell 0
      have x1 : w1.cell? ⟨w.heap.size + 1, 1, none⟩ = some (.int .u64 b.base) := HI1.out.x.cell 1
      have x2 : w1.cell? ⟨w.heap.size + 1, 2, none⟩ = some (.slice ab b.entries.length cb) := HI1.out.x.cell 2
      go_wp2_with fail
      refine (H25.out _ HI1.out.below).mono ?_
      rintro r w2 ⟨rfl, hb2'⟩
      clear x0 x1 x2
      have HI2 := hid (HI1.out.later hb2')
      clear hb2'
      have g0 : w2.cell? ⟨w.heap.size, 0, none⟩ = some (.int .u64 ep) := HI2.out.g.cell 0
      have g1 : w2.cell? ⟨w.heap.size, 1, none⟩ = some (.slice a l.length c) := HI2.out.g.cell 1
      have x0 : w2.cell? ⟨w.heap.size + 1, 0, none⟩ = some (.int .u64 b.epoch) := HI2.out.x.cell 0
      have x1 : w2.cell? ⟨w.heap.size + 1, 1, none⟩ = some (.int .u64 b.base) := HI2.out.x.cell 1
      have x2 : w2.cell? ⟨w.heap.size + 1, 2, none⟩ = some (.slice ab b.entries.length cb) := HI2.out.x.cell 2
      go_wp2_with fail
      refine (HA.out _ HI2.out.below).mono ?_
      rintro r w3 ⟨v3, e3, rfl, he3, hv3, hb3'⟩
      obtain ⟨a3, c3, hfv, hv3', _⟩ := sl_form hv3
      simp only [List.cons.injEq, and_true] at hfv
      subst hfv
      clear g0 g1 x0 x1 x2
      have HI3 := hid (HI2.out.later hb3')
      have hzw3 : w.heap.size < w3.heap.size := HI3.out.g.lt
      have hzw4 : w.heap.size + 1 < w3.heap.size := HI3.out.x.lt
      have HV3 := hid (rBatches.mono (S' := fun q => w2.heap.size ≤ q ∧ q < w3.heap.size) hv3' fun q hq => by simpa [Fresh] using hq)
      clear hv3 hv3' hb3'
      generalize hL3 : (if appendC ep l b = 0 then l ++ [b] else []) = L3 at *
      generalize hC : appendC ep l b = C at *
      have HE3 := hid he3
      have HL3 := hid hL3
      have HC := hid hC
      clear he3 hL3 hC
      have g0 : w3.cell? ⟨w.heap.size, 0, none⟩ = some (.int .u64 ep) := HI3.out.g.cell 0
      have g1 : w3.cell? ⟨w.heap.size, 1, none⟩ = some (.slice a l.length c) := HI3.out.g.cell 1
      go_wp2_with fail
      have hb34 : Below w3.heap.size w3 (w3.alloc (.cells #[.int .u64 e3, .slice a3 L3.length c3] 62)) := by (repeat (first | with_reducible exact Below.refl _ _ | with_reducible assumption | (with_reducible refine below_alloc ?_ _) | (with_reducible refine Below.setCell ?_ (by first | omega | (simp; done) | (simp; omega)) _) | (with_reducible refine Below.drew ?_) | (with_reducible refine below_drewN ?_ _) | (refine below_then (by with_reducible assumption) ?_)))
      have hH4 := Blk.new w3 62 #[.int .u64 e3, .slice a3 L3.length c3]
      generalize w3.alloc (.cells #[.int .u64 e3, .slice a3 L3.length c3] 62) = w4 at *
      have HI4 : Hid (LawH w w4 w4 ep a l.length c b ab b.entries.length cb w3.heap.size e3 a3 L3.length c3) := hid ⟨HI3.out.later hb34, Below.refl _ _, hH4⟩
      have HV4 := hid (lift (rBatches.mono (S' := (· < w3.heap.size)) HV3.out fun q hq => hq.2) hb34)
      have hz34 := hH4.lt
      clear hH4
      clear g0 g1
      cases hs : segR ⟨ep, l⟩
      · rw [hs] at HR
        obtain rfl : C = 3 := HC.out.symm.trans (by unfold appendC; rw [if_pos (.inl hs)])
        obtain rfl : L3 = [] := HL3.out.symm
        obtain rfl : e3 = 0 := HE3.out
        clear hs
        refine (HR.out _ HI4.out.below).mono ?_
        rintro r w5 ⟨rfl, hb5⟩
        have HI5 := hid (HI4.out.later hb5)
        clear hb5
        have h0' : w5.cell? ⟨w3.heap.size, 0, none⟩ = some (.int .u64 0) := HI5.out.h.cell 0
        have h1' : w5.cell? ⟨w3.heap.size, 1, none⟩ = some (.slice a3 0 c3) := HI5.out.h.cell 1
        go_wp2_with fail
        have hsm := ref34_same 0 0 [] [] a3 none 0 c3 0 0 w5 (lift HV4.out (HI5.out.later4)) (rSl_mk (xs := []) rfl (Nat.le_refl _) (Nat.zero_le _) (.inl rfl))
        rw [show decide ((⟨0, []⟩ : Seg) = ⟨0, []⟩) = true from decide_eq_true rfl] at hsm
        refine hsm.mono ?_
        rintro r w8 ⟨rfl, hb8⟩
        clear hsm
        go_wp2_with fail
        refine (live34 _).mono ?_
        rintro r w9 ⟨rfl, hb9⟩
        have hbe := below_then hb9 (below_then hb8 HI5.out.below)
        go_wp2
        go_ret
        exact ⟨rfl, hbe⟩
      · rw [hs] at HR
        obtain ⟨_, hl16, hall⟩ := segR_facts hs
        have hl16 : l.length ≤ 16 := hl16
        cases hbr : batchR b
        · rw [hbr] at HRB
          obtain rfl : C = 3 := HC.out.symm.trans (by unfold appendC; rw [if_pos (.inr hbr)])
          obtain rfl : L3 = [] := HL3.out.symm
          obtain rfl : e3 = 0 := HE3.out
          clear hs hbr hall
          refine (HR.out _ HI4.out.below).mono ?_
          rintro r w5 ⟨rfl, hb5⟩
          have HI5 := hid (HI4.out.later hb5)
          clear hb5
          have x0 : w5.cell? ⟨w.heap.size + 1, 0, none⟩ = some (.int .u64 b.epoch) := HI5.out.x.cell 0
          have x1 : w5.cell? ⟨w.heap.size + 1, 1, none⟩ = some (.int .u64 b.base) := HI5.out.x.cell 1
          have x2 : w5.cell? ⟨w.heap.size + 1, 2, none⟩ = some (.slice ab b.entries.length cb) := HI5.out.x.cell 2
          go_wp2_with fail
          refine (HRB.out _ HI5.out.below).mono ?_
          rintro r w6 ⟨rfl, hb6⟩
          clear x0 x1 x2
          have HI6 := hid (HI5.out.later hb6)
          clear hb6
          have h0' : w6.cell? ⟨w3.heap.size, 0, none⟩ = some (.int .u64 0) := HI6.out.h.cell 0
          have h1' : w6.cell? ⟨w3.heap.size, 1, none⟩ = some (.slice a3 0 c3) := HI6.out.h.cell 1
          go_wp2_with fail
          have hsm := ref34_same 0 0 [] [] a3 none 0 c3 0 0 w6 (lift HV4.out (HI6.out.later4)) (rSl_mk (xs := []) rfl (Nat.le_refl _) (Nat.zero_le _) (.inl rfl))
          rw [show decide ((⟨0, []⟩ : Seg) = ⟨0, []⟩) = true from decide_eq_true rfl] at hsm
          refine hsm.mono ?_
          rintro r w8 ⟨rfl, hb8⟩
          clear hsm
          go_wp2_with fail
          refine (live34 _).mono ?_
          rintro r w9 ⟨rfl, hb9⟩
          have hbe := below_then hb9 (below_then hb8 HI6.out.below)
          go_wp2
          go_ret
          exact ⟨rfl, hbe⟩
        · rw [hbr] at HRB
          by_cases h16 : l.length = 16
          · obtain rfl : C = 2 := HC.out.symm.trans (by unfold appendC; rw [if_neg (by simp [hs, hbr]), if_pos h16])
            obtain rfl : L3 = [] := HL3.out.symm
            obtain rfl : e3 = 0 := HE3.out
            have d16 : ((l.length : Int) == 16) = true := by simp [h16]
            clear hs hbr hall h16
            refine (HR.out _ HI4.out.below).mono ?_
            rintro r w5 ⟨rfl, hb5⟩
            have HI5 := hid (HI4.out.later hb5)
            clear hb5
            have x0 : w5.cell? ⟨w.heap.size + 1, 0, none⟩ = some (.int .u64 b.epoch) := HI5.out.x.cell 0
            have x1 : w5.cell? ⟨w.heap.size + 1, 1, none⟩ = some (.int .u64 b.base) := HI5.out.x.cell 1
            have x2 : w5.cell? ⟨w.heap.size + 1, 2, none⟩ = some (.slice ab b.entries.length cb) := HI5.out.x.cell 2
            go_wp2_with fail
            refine (HRB.out _ HI5.out.below).mono ?_
            rintro r w6 ⟨rfl, hb6⟩
            clear x0 x1 x2
            have HI6 := hid (HI5.out.later hb6)
            clear hb6
            have g0 : w6.cell? ⟨w.heap.size, 0, none⟩ = some (.int .u64 ep) := HI6.out.g.cell 0
            have g1 : w6.cell? ⟨w.heap.size, 1, none⟩ = some (.slice a l.length c) := HI6.out.g.cell 1
            have h0' : w6.cell? ⟨w3.heap.size, 0, none⟩ = some (.int .u64 0) := HI6.out.h.cell 0
            have h1' : w6.cell? ⟨w3.heap.size, 1, none⟩ = some (.slice a3 0 c3) := HI6.out.h.cell 1
            go_wp2_with fail
            have hsm := ref34_same 0 0 [] [] a3 none 0 c3 0 0 w6 (lift HV4.out (HI6.out.later4)) (rSl_mk (xs := []) rfl (Nat.le_refl _) (Nat.zero_le _) (.inl rfl))
            rw [show decide ((⟨0, []⟩ : Seg) = ⟨0, []⟩) = true from decide_eq_true rfl] at hsm
            refine hsm.mono ?_
            rintro r w8 ⟨rfl, hb8⟩
            clear hsm
            go_wp2_with fail
            refine (live34 _).mono ?_
            rintro r w9 ⟨rfl, hb9⟩
            have hbe := below_then hb9 (below_then hb8 HI6.out.below)
            go_wp2
            go_ret
            exact ⟨rfl, hbe⟩
          · have d16 : ((l.length : Int) == 16) = false := beq_eq_false_iff_ne.2 (by omega)
            have HM := hid (fun (W : World) (hW : Below w.heap.size w W) => ref34_may ep l b l.length a ab _ c b.entries.length cb W (lift HL.out hW) (Nat.le_refl _) (fun i h _ => hall _ (List.getElem_mem h)))
            cases hmy : mayR ep (prevB l l.length) b
            · rw [hmy] at HM
              obtain rfl : C = 13 := HC.out.symm.trans (by unfold appendC; rw [if_neg (by simp [hs, hbr]), if_neg h16, if_pos hmy])
              obtain rfl : L3 = [] := HL3.out.symm
              obtain rfl : e3 = 0 := HE3.out
              clear hs hbr hall h16 hmy
              refine (HR.out _ HI4.out.below).mono ?_
              rintro r w5 ⟨rfl, hb5⟩
              have HI5 := hid (HI4.out.later hb5)
              clear hb5
              have x0 : w5.cell? ⟨w.heap.size + 1, 0, none⟩ = some (.int .u64 b.epoch) := HI5.out.x.cell 0
              have x1 : w5.cell? ⟨w.heap.size + 1, 1, none⟩ = some (.int .u64 b.base) := HI5.out.x.cell 1
              have x2 : w5.cell? ⟨w.heap.size + 1, 2, none⟩ = some (.slice ab b.entries.length cb) := HI5.out.x.cell 2
              go_wp2_with fail
              refine (HRB.out _ HI5.out.below).mono ?_
              rintro r w6 ⟨rfl, hb6⟩
              clear x0 x1 x2
              have HI6 := hid (HI5.out.later hb6)
              clear hb6
              have g0 : w6.cell? ⟨w.heap.size, 0, none⟩ = some (.int .u64 ep) := HI6.out.g.cell 0
              have g1 : w6.cell? ⟨w.heap.size, 1, none⟩ = some (.slice a l.length c) := HI6.out.g.cell 1
              have x0 : w6.cell? ⟨w.heap.size + 1, 0, none⟩ = some (.int .u64 b.epoch) := HI6.out.x.cell 0
              have x1 : w6.cell? ⟨w.heap.size + 1, 1, none⟩ = some (.int .u64 b.base) := HI6.out.x.cell 1
              have x2 : w6.cell? ⟨w.heap.size + 1, 2, none⟩ = some (.slice ab b.entries.length cb) := HI6.out.x.cell 2
              go_wp2_with fail
              refine (HM.out _ HI6.out.below).mono ?_
              rintro r w7 ⟨rfl, hb7⟩
              clear g0 g1 x0 x1 x2
              have HI7 := hid (HI6.out.later hb7)
              clear hb7
              have h0' : w7.cell? ⟨w3.heap.size, 0, none⟩ = some (.int .u64 0) := HI7.out.h.cell 0
              have h1' : w7.cell? ⟨w3.heap.size, 1, none⟩ = some (.slice a3 0 c3) := HI7.out.h.cell 1
              go_wp2_with fail
              have hsm := ref34_same 0 0 [] [] a3 none 0 c3 0 0 w7 (lift HV4.out (HI7.out.later4)) (rSl_mk (xs := []) rfl (Nat.le_refl _) (Nat.zero_le _) (.inl rfl))
              rw [show decide ((⟨0, []⟩ : Seg) = ⟨0, []⟩) = true from decide_eq_true rfl] at hsm
              refine hsm.mono ?_
              rintro r w8 ⟨rfl, hb8⟩
              clear hsm
              go_wp2_with fail
              refine (live34 _).mono ?_
              rintro r w9 ⟨rfl, hb9⟩
              have hbe := below_then hb9 (below_then hb8 HI7.out.below)
              go_wp2
              go_ret
              exact ⟨rfl, hbe⟩
            · rw [hmy] at HM
              obtain rfl : C = 0 := HC.out.symm.trans (by unfold appendC; rw [if_neg (by simp [hs, hbr]), if_neg h16, if_neg (by simp [hmy])])
              have hL3 : l ++ [b] = L3 := HL3.out
              obtain rfl : e3 = ep := HE3.out
              have hSR := segR_app hs hbr h16 hmy
              rw [hL3] at hSR
              have hF3 : ∀ x ∈ L3, Fair x.entries := by
                rw [← hL3]; intro x hx
                rcases List.mem_append.1 hx with hx | hx
                · exact HFR.out x hx
                · rw [List.mem_singleton] at hx; subst hx; exact HFB.out
              have HSR := hid (fun (W : World) (hW : Below w4.heap.size w4 W) => segment_right e3 L3 a3 _ c3 W h0 (lift HV4.out hW) hF3)
              rw [hSR] at HSR
              have HL3' := hid hL3
              clear hs hbr hall h16 hmy hSR hF3 hL3
              refine (HR.out _ HI4.out.below).mono ?_
              rintro r w5 ⟨rfl, hb5⟩
              have HI5 := hid (HI4.out.later hb5)
              clear hb5
              have x0 : w5.cell? ⟨w.heap.size + 1, 0, none⟩ = some (.int .u64 b.epoch) := HI5.out.x.cell 0
              have x1 : w5.cell? ⟨w.heap.size + 1, 1, none⟩ = some (.int .u64 b.base) := HI5.out.x.cell 1
              have x2 : w5.cell? ⟨w.heap.size + 1, 2, none⟩ = some (.slice ab b.entries.length cb) := HI5.out.x.cell 2
              go_wp2_with fail
              refine (HRB.out _ HI5.out.below).mono ?_
              rintro r w6 ⟨rfl, hb6⟩
              clear x0 x1 x2
              have HI6 := hid (HI5.out.later hb6)
              clear hb6
              have g0 : w6.cell? ⟨w.heap.size, 0, none⟩ = some (.int .u64 e3) := HI6.out.g.cell 0
              have g1 : w6.cell? ⟨w.heap.size, 1, none⟩ = some (.slice a l.length c) := HI6.out.g.cell 1
              have x0 : w6.cell? ⟨w.heap.size + 1, 0, none⟩ = some (.int .u64 b.epoch) := HI6.out.x.cell 0
              have x1 : w6.cell? ⟨w.heap.size + 1, 1, none⟩ = some (.int .u64 b.base) := HI6.out.x.cell 1
              have x2 : w6.cell? ⟨w.heap.size + 1, 2, none⟩ = some (.slice ab b.entries.length cb) := HI6.out.x.cell 2
              go_wp2_with fail
              refine (HM.out _ HI6.out.below).mono ?_
              rintro r w7 ⟨rfl, hb7⟩
              clear g0 g1 x0 x1 x2
              have HI7 := hid (HI6.out.later hb7)
              clear hb7
              have g0 : w7.cell? ⟨w.heap.size, 0, none⟩ = some (.int .u64 e3) := HI7.out.g.cell 0
              have g1 : w7.cell? ⟨w.heap.size, 1, none⟩ = some (.slice a l.length c) := HI7.out.g.cell 1
              have x0 : w7.cell? ⟨w.heap.size + 1, 0, none⟩ = some (.int .u64 b.epoch) := HI7.out.x.cell 0
              have x1 : w7.cell? ⟨w.heap.size + 1, 1, none⟩ = some (.int .u64 b.base) := HI7.out.x.cell 1
              have x2 : w7.cell? ⟨w.heap.size + 1, 2, none⟩ = some (.slice ab b.entries.length cb) := HI7.out.x.cell 2
              have h0' : w7.cell? ⟨w3.heap.size, 0, none⟩ = some (.int .u64 e3) := HI7.out.h.cell 0
              have h1' : w7.cell? ⟨w3.heap.size, 1, none⟩ = some (.slice a3 L3.length c3) := HI7.out.h.cell 1
              go_wp2_with fail
              have hb78 : Below w7.heap.size w7 (w7.alloc (.cells #[.int .u64 e3, .slice none 0 0] 62)) := by (repeat (first | with_reducible exact Below.refl _ _ | with_reducible assumption | (with_reducible refine below_alloc ?_ _) | (with_reducible refine Below.setCell ?_ (by first | omega | (simp; done) | (simp; omega)) _) | (with_reducible refine Below.drew ?_) | (with_reducible refine below_drewN ?_ _) | (refine below_then (by with_reducible assumption) ?_)))
              have hO8 := Blk.new w7 62 #[.int .u64 e3, .slice none 0 0]
              clear g0 g1 x0 x1 x2 h0' h1'
              generalize w7.alloc (.cells #[.int .u64 e3, .slice none 0 0] 62) = W at *
              have HIW := hid (HI7.out.later hb78)
              have HOW := hid hO8
              have o1 : W.cell? ⟨w7.heap.size, 1, none⟩ = some (.slice none 0 0) := hO8.cell 1
              have hzW : w7.heap.size < W.heap.size := hO8.lt
              have hzG : w.heap.size ≤ w7.heap.size := by have := HI7.out.below.size; omega
              clear hO8 hb78
              have g0 : W.cell? ⟨w.heap.size, 0, none⟩ = some (.int .u64 e3) := HIW.out.g.cell 0
              have g1 : W.cell? ⟨w.heap.size, 1, none⟩ = some (.slice a l.length c) := HIW.out.g.cell 1
              have x0 : W.cell? ⟨w.heap.size + 1, 0, none⟩ = some (.int .u64 b.epoch) := HIW.out.x.cell 0
              have x1 : W.cell? ⟨w.heap.size + 1, 1, none⟩ = some (.int .u64 b.base) := HIW.out.x.cell 1
              have x2 : W.cell? ⟨w.heap.size + 1, 2, none⟩ = some (.slice ab b.entries.length cb) := HIW.out.x.cell 2
              obtain ⟨cells, hcl, hcs, hcr, hsr, hone⟩ := sl_cells HL.out batch_one
              have HCL := hid hcl
              have HCS := hid hcs
              have HCR := hid hcr
              have HSC := hid hsr
              have HON := hid hone
              clear hcl hcs hcr hsr hone g0
              refine wp_region_last_held (fun w' => w'.cell? ⟨w7.heap.size, 1, none⟩ = some (.slice none 0 0) ∧ w'.cell? ⟨w.heap.size, 1, none⟩ = some (.slice a l.length c) ∧ w'.cell? ⟨w.heap.size + 1, 0, none⟩ = some (.int .u64 b.epoch) ∧ w'.cell? ⟨w.heap.size + 1, 1, none⟩ = some (.int .u64 b.base) ∧ w'.cell? ⟨w.heap.size + 1, 2, none⟩ = some (.slice ab b.entries.length cb)) _ (by kernel_rfl) rfl (by kernel_rfl) ⟨o1, g1, x0, x1, x2⟩ (fun hHeld => ?_)
              simp only [noopLast, noopOf]
              refine wpAnyH_take (i := 0) (oi := _) (v := ?_) rfl (by decide +kernel) (by decide +kernel) (by decide +kernel) (fun _ _ _ h => h) (Or.inl ⟨by rfl, ?_⟩) (by assumption) ?_
              rotate_left
              · (intro w hSw; (try dsimp only at hSw); go_simp <;> with_reducible rfl)
              (try simp only [Act.put, List.setIfInBounds_toArray, List.set_cons_zero, List.set_cons_succ])
              refine wpAnyH_take (i := 1) (oi := _) (v := ?_) rfl (by decide +kernel) (by decide +kernel) (by decide +kernel) (fun _ _ _ h => h) (Or.inl ⟨by rfl, ?_⟩) (by assumption) ?_
              rotate_left
              · (intro w hSw; (try dsimp only at hSw); go_simp <;> with_reducible rfl)
              (try simp only [Act.put, List.setIfInBounds_toArray, List.set_cons_zero, List.set_cons_succ])
              refine wpAnyH_take (i := 2) (oi := _) (v := ?_) rfl (by decide +kernel) (by decide +kernel) (by decide +kernel) (fun _ _ _ h => h) (Or.inl ⟨by rfl, ?_⟩) (by assumption) ?_
              rotate_left
              · (intro w hSw; (try dsimp only at hSw); go_simp <;> with_reducible rfl)
              (try simp only [Act.put, List.setIfInBounds_toArray, List.set_cons_zero, List.set_cons_succ])
              refine wpAnyH_take (i := 3) (oi := _) (v := ?_) rfl (by decide +kernel) (by decide +kernel) (by decide +kernel) (fun _ _ _ h => h) (Or.inl ⟨by rfl, ?_⟩) (by assumption) ?_
              rotate_left
              · (intro w hSw; (try dsimp only at hSw); go_simp <;> with_reducible rfl)
              (try simp only [Act.put, List.setIfInBounds_toArray, List.set_cons_zero, List.set_cons_succ])
              refine wpAnyH_take (i := 5) (oi := _) (v := ?_) rfl (by decide +kernel) (by decide +kernel) (by decide +kernel) (fun _ _ _ h => h) (Or.inl ⟨by rfl, ?_⟩) (by assumption) ?_
              rotate_left
              · (intro w hSw; (try dsimp only at hSw); go_simp <;> with_reducible rfl)
              (try simp only [Act.put, List.setIfInBounds_toArray, List.set_cons_zero, List.set_cons_succ])
              refine wpAnyH_ready (rs := [4, 6]) (by decide +kernel) (by simp) ?_
              refine AllReadyH.cons (o := _) rfl (fun K hK => ?_) (AllReadyH.cons (o := _) rfl (fun K hK => ?_) AllReadyH.nil)
              · (have hbi : Below w.heap.size w (W.drew) := HIW.out.below.drew; have hin : W.heap.size ≤ (W.drew).heap.size := (by have := ((Below.refl W.heap.size W).drew).size; omega); refine step_append_src (by rfl) _ _ _ (by rfl) W.heap.size 25 i0 (.agg #[.int .u64 0, .int .u64 0, .slice none 0 0]) 3 40 Tryz.underlying60 hi hz0 hz1 hz2 rfl (by decide) (.slice none 0 0) 0 [] (by rfl) ⟨rfl, .inl ⟨rfl, rfl⟩⟩ a l.length c cells.flatten (by rfl) (HSC.out _ fun q hq => hbi.block q hq) HON.out (by simp only [maxLen]; omega) (by omega) hin ?_; intro a8 c8 w8 hown8 hgrow8 hat8; have hb8 : Below W.heap.size W w8 := ((Below.refl W.heap.size W).drew).grown hgrow8 hin (fun g e => by cases e); have OF8 := OwnElsF.app (OwnElsF.nil (w := W.drew) (F := fun q => q < w.heap.size) (A := rBatch) (base := W.heap.size) (e := 25) (sz := 3)) (fun q hq => by omega) HCL.out HCS.out (fun i cs y hi hy => rBatch.mono (rBatch.keep (HCR.out i cs y hi hy) fun q hq => hbi.block q hq) fun q hq => ⟨hq, fun e => by cases e⟩) hown8 hgrow8 hat8; simp only [Nat.zero_add, List.nil_append] at OF8 ⊢; have HF8 := hid OF8; have HI8 := hid (HIW.out.later hb8); have HO8 := hid (HOW.out.later hb8); have HB8 := hid hb8; have o2 : w8.cell? ⟨w7.heap.size, 1, none⟩ = some (.slice none 0 0) := HO8.out.cell 1; have g2 : w8.cell? ⟨w.heap.size, 1, none⟩ = some (.slice a l.length c) := HI8.out.g.cell 1; have y0 : w8.cell? ⟨w.heap.size + 1, 0, none⟩ = some (.int .u64 b.epoch) := HI8.out.x.cell 0; have y1 : w8.cell? ⟨w.heap.size + 1, 1, none⟩ = some (.int .u64 b.base) := HI8.out.x.cell 1; have y2 : w8.cell? ⟨w.heap.size + 1, 2, none⟩ = some (.slice ab b.entries.length cb) := HI8.out.x.cell 2; have hz8 := hb8.size; clear hown8 OF8 hat8 hb8 hbi)
                refine hK.out _ _ ?_ (fun hHeld => ?_)
                · ((try dsimp only); refine ⟨?_, ?_, ?_, ?_, ?_⟩ <;> (first | assumption | (go_keep; done)))
                clear hK K
                (try simp only [Act.put, List.setIfInBounds_toArray, List.set_cons_zero, List.set_cons_succ])
                refine wpAnyH_ready (rs := [6]) (by decide +kernel) (by simp) ?_
                refine AllReadyH.cons (o := _) rfl (fun K hK => ?_) AllReadyH.nil
                go_simp
                refine hK.out _ _ ?_ (fun hHeld => ?_)
                · ((try dsimp only); refine ⟨?_, ?_, ?_, ?_, ?_⟩ <;> (first | assumption | (go_keep; done)))
                clear hK K
                (try simp only [Act.put, List.setIfInBounds_toArray, List.set_cons_zero, List.set_cons_succ])
                refine wpAnyH_ready (rs := [7]) (by decide +kernel) (by simp) ?_
                refine AllReadyH.cons (o := _) rfl (fun K hK => ?_) AllReadyH.nil
                (have hbj : Below w8.heap.size w8 (w8.alloc (.cells #[.int .u64 b.epoch, .int .u64 b.base, .slice ab b.entries.length cb] 25)) := below_alloc (Below.refl _ _) _; have hbk : Below w.heap.size w (w8.alloc (.cells #[.int .u64 b.epoch, .int .u64 b.base, .slice ab b.entries.length cb] 25)) := below_then hbj HI8.out.below; have OF9 := HF8.out.keep (w' := w8.alloc (.cells #[.int .u64 b.epoch, .int .u64 b.base, .slice ab b.entries.length cb] 25)) (fun q hq => hbj.block q (by have := HI8.out.below.size; omega)) (fun g hg => hbj.block g (own_lt HF8.out.1 g hg).2); have HX : rBatch.r (fun q => q < w.heap.size ∧ (Value.slice a8 l.length c8).ownBlock ≠ some q) (w8.alloc (.cells #[.int .u64 b.epoch, .int .u64 b.base, .slice ab b.entries.length cb] 25)) [.int .u64 b.epoch, .int .u64 b.base, .slice ab b.entries.length cb] b := batch_mk hb0 hb1 (rEntries.mono (rEntries.keep HE.out fun q hq => hbk.block q hq) fun q hq => ⟨hq, fun e => by have := (own_lt HF8.out.1 q e).1; omega⟩); have HF9 := hid OF9; have HX9 := hid HX; clear HX; refine step_append_src (by rfl) _ _ _ (by rfl) W.heap.size 25 i0 (.agg #[.int .u64 0, .int .u64 0, .slice none 0 0]) 3 40 Tryz.underlying60 hi hz0 hz1 hz2 rfl (by decide) (.slice a8 l.length c8) l.length cells.flatten (by rfl) HF9.out.1 (some ⟨w8.heap.size, 0, none⟩) 1 1 [.int .u64 b.epoch, .int .u64 b.base, .slice ab b.entries.length cb] (by rfl) (src_blk (Blk.new w8 _ _) rfl) (by intro u hu; simp at hu; rcases hu with rfl | rfl | rfl <;> rfl) (by simp only [maxLen]; omega) (by omega) (by have := hbj.size; omega) ?_; intro a9 c9 w9 hown9 hgrow9 hat9; have HP9 := hid (OwnElsF.push HF9.out (fun q hq => by have := hbk.size; omega) rfl HX9.out hown9 hgrow9 hat9); have hb9 : Below W.heap.size W w9 := (below_then hbj HB8.out).grown hgrow9 (by have := hbj.size; omega) (fun g e => (own_lt HF8.out.1 g e).1); have HI9 := hid (HIW.out.later hb9); have HO9 := hid (HOW.out.later hb9); have HB9 := hid hb9; have o3 : w9.cell? ⟨w7.heap.size, 1, none⟩ = some (.slice none 0 0) := HO9.out.cell 1; have of3 : w9.frozen? ⟨w7.heap.size, 1, none⟩ = false := HO9.out.free 1; have o0 : w9.cell? ⟨w7.heap.size, 0, none⟩ = some (.int .u64 e3) := HO9.out.cell 0; have hzo : w7.heap.size < w9.heap.size := HO9.out.lt; have g3 : w9.cell? ⟨w.heap.size, 1, none⟩ = some (.slice a l.length c) := HI9.out.g.cell 1; have z0 : w9.cell? ⟨w.heap.size + 1, 0, none⟩ = some (.int .u64 b.epoch) := HI9.out.x.cell 0; have z1 : w9.cell? ⟨w.heap.size + 1, 1, none⟩ = some (.int .u64 b.base) := HI9.out.x.cell 1; have z2 : w9.cell? ⟨w.heap.size + 1, 2, none⟩ = some (.slice ab b.entries.length cb) := HI9.out.x.cell 2; have h0' : w9.cell? ⟨w3.heap.size, 0, none⟩ = some (.int .u64 e3) := HI9.out.h.cell 0; have h1' : w9.cell? ⟨w3.heap.size, 1, none⟩ = some (.slice a3 L3.length c3) := HI9.out.h.cell 1; clear hown9 hgrow9 hat9 hb9 hbj hbk OF9)
                refine hK.out _ _ ?_ (fun hHeld => ?_)
                · ((try dsimp only); refine ⟨?_, ?_, ?_, ?_, ?_⟩ <;> (first | assumption | (go_keep; done)))
                clear hK K
                (try simp only [Act.put, List.setIfInBounds_toArray, List.set_cons_zero, List.set_cons_succ])
                refine wpAnyH_take (i := 8) (oi := _) (v := ?_) rfl (by decide +kernel) (by decide +kernel) (by decide +kernel) (fun _ _ _ h => h) (Or.inl ⟨by rfl, ?_⟩) (by assumption) ?_
                rotate_left
                · (intro w hSw; (try dsimp only at hSw); go_simp <;> with_reducible rfl)
                (try simp only [Act.put, List.setIfInBounds_toArray, List.set_cons_zero, List.set_cons_succ])
                refine wpAnyH_take (i := 9) (oi := _) (v := ?_) rfl (by decide +kernel) (by decide +kernel) (by decide +kernel) (fun _ _ _ h => h) (Or.inl ⟨by rfl, ?_⟩) (by assumption) ?_
                rotate_left
                · (intro w hSw; (try dsimp only at hSw); go_simp <;> with_reducible rfl)
                (try simp only [Act.put, List.setIfInBounds_toArray, List.set_cons_zero, List.set_cons_succ])
                refine wpAnyH_done (by kernel_rfl) ?_ _
                show wpList _ _ _ _ _ _
                have hzH : w3.heap.size < w7.heap.size := HI7.out.h.lt
                have hb49 : Below w4.heap.size w4 (w9.setCell ⟨w7.heap.size, 1, none⟩ (.slice a9 (l.length + 1) c9)) := HI9.out.later4.setCell (HI7.out.later4.size) _
                have hbw9 : Below w.heap.size w (w9.setCell ⟨w7.heap.size, 1, none⟩ (.slice a9 (l.length + 1) c9)) := HI9.out.below.setCell hzG _
                have hx9 : rBatches.r (· < (w9.setCell ⟨w7.heap.size, 1, none⟩ (.slice a9 (l.length + 1) c9)).heap.size) (w9.setCell ⟨w7.heap.size, 1, none⟩ (.slice a9 (l.length + 1) c9)) [.slice a3 L3.length c3] L3 := lift HV4.out hb49
                have hy9 : rBatches.r (· < (w9.setCell ⟨w7.heap.size, 1, none⟩ (.slice a9 (l.length + 1) c9)).heap.size) (w9.setCell ⟨w7.heap.size, 1, none⟩ (.slice a9 (l.length + 1) c9)) [.slice a9 (l.length + 1) c9] L3 := by
                  rw [← HL3'.out]
                  have h := OwnElsF.slice HP9.out
                  have hq2 : ∀ q, (q < w.heap.size ∨ (Value.slice a9 (l.length + 1) c9).ownBlock = some q) → q ≠ w7.heap.size ∧ q < w9.heap.size := fun q hq => by
                    rcases hq with hq | hq
                    · omega
                    · have := own_lt HP9.out.1 q hq; omega
                  refine rBatches.mono (rBatches.keep h fun q hq => Below.heap_setCell _ _ _ _ (hq2 q hq).1) fun q hq => by have := (hq2 q hq).2; simpa using this
                have HSM := hid (ref34_same e3 e3 L3 L3 a3 a9 _ c3 _ c9 _ hx9 hy9)
                rw [decide_eq_true rfl] at HSM
                clear hx9 hy9
                go_wp2_with fail
                refine HSM.out.mono ?_
                rintro r w10 ⟨rfl, hb10⟩
                have hH10 := (HI9.out.h.far (p := ⟨w7.heap.size, 1, none⟩) (by dsimp only; omega) (.slice a9 (l.length + 1) c9)).later hb10
                have q0 : w10.cell? ⟨w3.heap.size, 0, none⟩ = some (.int .u64 e3) := hH10.cell 0
                have q1 : w10.cell? ⟨w3.heap.size, 1, none⟩ = some (.slice a3 L3.length c3) := hH10.cell 1
                have hb410 := below_then hb10 hb49
                have hbw10 := below_then hb10 hbw9
                clear hH10 hb10 HSM hb49 hbw9
                go_wp2_with fail
                refine (HSR.out w10 hb410).mono ?_
                rintro r w11 ⟨rfl, hb11⟩
                go_wp2_with fail
                refine (live34 _).mono ?_
                rintro r w12 ⟨rfl, hb12⟩
                have hbe := below_then hb12 (below_then hb11 hbw10)
                go_wp2
                go_ret
                exact ⟨rfl, hbe⟩
              · go_simp
                refine hK.out _ _ ?_ (fun hHeld => ?_)
                · ((try dsimp only); refine ⟨?_, ?_, ?_, ?_, ?_⟩ <;> (first | assumption | (go_keep; done)))
                clear hK K
                (try simp only [Act.put, List.setIfInBounds_toArray, List.set_cons_zero, List.set_cons_succ])
                refine wpAnyH_ready (rs := [4]) (by decide +kernel) (by simp) ?_
                refine AllReadyH.cons (o := _) rfl (fun K hK => ?_) AllReadyH.nil
                (have hbi : Below w.heap.size w (W.drew.alloc (.cells #[.int .u64 b.epoch, .int .u64 b.base, .slice ab b.entries.length cb] 25)) := (HIW.out.below.drew).alloc HIW.out.below.size _; have hin : W.heap.size ≤ (W.drew.alloc (.cells #[.int .u64 b.epoch, .int .u64 b.base, .slice ab b.entries.length cb] 25)).heap.size := ((Below.refl W.heap.size W).drew.alloc (Nat.le_refl _) _).size; refine step_append_src (by rfl) _ _ _ (by rfl) W.heap.size 25 i0 (.agg #[.int .u64 0, .int .u64 0, .slice none 0 0]) 3 40 Tryz.underlying60 hi hz0 hz1 hz2 rfl (by decide) (.slice none 0 0) 0 [] (by rfl) ⟨rfl, .inl ⟨rfl, rfl⟩⟩ a l.length c cells.flatten (by rfl) (HSC.out _ fun q hq => hbi.block q hq) HON.out (by simp only [maxLen]; omega) (by omega) hin ?_; intro a8 c8 w8 hown8 hgrow8 hat8; have hb8 : Below W.heap.size W w8 := ((Below.refl W.heap.size W).drew.alloc (Nat.le_refl _) _).grown hgrow8 hin (fun g e => by cases e); have OF8 := OwnElsF.app (OwnElsF.nil (w := W.drew.alloc (.cells #[.int .u64 b.epoch, .int .u64 b.base, .slice ab b.entries.length cb] 25)) (F := fun q => q < w.heap.size) (A := rBatch) (base := W.heap.size) (e := 25) (sz := 3)) (fun q hq => by omega) HCL.out HCS.out (fun i cs y hi hy => rBatch.mono (rBatch.keep (HCR.out i cs y hi hy) fun q hq => hbi.block q hq) fun q hq => ⟨hq, fun e => by cases e⟩) hown8 hgrow8 hat8; simp only [Nat.zero_add, List.nil_append] at OF8 ⊢; have HF8 := hid OF8; have HI8 := hid (HIW.out.later hb8); have HO8 := hid (HOW.out.later hb8); have HB8 := hid hb8; have o2 : w8.cell? ⟨w7.heap.size, 1, none⟩ = some (.slice none 0 0) := HO8.out.cell 1; have g2 : w8.cell? ⟨w.heap.size, 1, none⟩ = some (.slice a l.length c) := HI8.out.g.cell 1; have y0 : w8.cell? ⟨w.heap.size + 1, 0, none⟩ = some (.int .u64 b.epoch) := HI8.out.x.cell 0; have y1 : w8.cell? ⟨w.heap.size + 1, 1, none⟩ = some (.int .u64 b.base) := HI8.out.x.cell 1; have y2 : w8.cell? ⟨w.heap.size + 1, 2, none⟩ = some (.slice ab b.entries.length cb) := HI8.out.x.cell 2; have hz8 := hb8.size; clear hown8 OF8 hat8 hb8 hbi; have HBK := hid ((Blk.newAt (g := W.heap.size) W.drew 25 #[.int .u64 b.epoch, .int .u64 b.base, .slice ab b.entries.length cb] rfl).grown hgrow8 (fun e => by cases e)))
                refine hK.out _ _ ?_ (fun hHeld => ?_)
                · ((try dsimp only); refine ⟨?_, ?_, ?_, ?_, ?_⟩ <;> (first | assumption | (go_keep; done)))
                clear hK K
                (try simp only [Act.put, List.setIfInBounds_toArray, List.set_cons_zero, List.set_cons_succ])
                refine wpAnyH_ready (rs := [7]) (by decide +kernel) (by simp) ?_
                refine AllReadyH.cons (o := _) rfl (fun K hK => ?_) AllReadyH.nil
                (have hbj : Below w8.heap.size w8 (w8) := Below.refl _ _; have hbk : Below w.heap.size w (w8) := below_then hbj HI8.out.below; have OF9 := HF8.out.keep (w' := w8) (fun q hq => hbj.block q (by have := HI8.out.below.size; omega)) (fun g hg => hbj.block g (own_lt HF8.out.1 g hg).2); have HX : rBatch.r (fun q => q < w.heap.size ∧ (Value.slice a8 l.length c8).ownBlock ≠ some q) (w8) [.int .u64 b.epoch, .int .u64 b.base, .slice ab b.entries.length cb] b := batch_mk hb0 hb1 (rEntries.mono (rEntries.keep HE.out fun q hq => hbk.block q hq) fun q hq => ⟨hq, fun e => by have := (own_lt HF8.out.1 q e).1; omega⟩); have HF9 := hid OF9; have HX9 := hid HX; clear HX; refine step_append_src (by rfl) _ _ _ (by rfl) W.heap.size 25 i0 (.agg #[.int .u64 0, .int .u64 0, .slice none 0 0]) 3 40 Tryz.underlying60 hi hz0 hz1 hz2 rfl (by decide) (.slice a8 l.length c8) l.length cells.flatten (by rfl) HF9.out.1 (some ⟨W.heap.size, 0, none⟩) 1 1 [.int .u64 b.epoch, .int .u64 b.base, .slice ab b.entries.length cb] (by rfl) (src_blk (HBK.out) rfl) (by intro u hu; simp at hu; rcases hu with rfl | rfl | rfl <;> rfl) (by simp only [maxLen]; omega) (by omega) (by have := hbj.size; omega) ?_; intro a9 c9 w9 hown9 hgrow9 hat9; have HP9 := hid (OwnElsF.push HF9.out (fun q hq => by have := hbk.size; omega) rfl HX9.out hown9 hgrow9 hat9); have hb9 : Below W.heap.size W w9 := (below_then hbj HB8.out).grown hgrow9 (by have := hbj.size; omega) (fun g e => (own_lt HF8.out.1 g e).1); have HI9 := hid (HIW.out.later hb9); have HO9 := hid (HOW.out.later hb9); have HB9 := hid hb9; have o3 : w9.cell? ⟨w7.heap.size, 1, none⟩ = some (.slice none 0 0) := HO9.out.cell 1; have of3 : w9.frozen? ⟨w7.heap.size, 1, none⟩ = false := HO9.out.free 1; have o0 : w9.cell? ⟨w7.heap.size, 0, none⟩ = some (.int .u64 e3) := HO9.out.cell 0; have hzo : w7.heap.size < w9.heap.size := HO9.out.lt; have g3 : w9.cell? ⟨w.heap.size, 1, none⟩ = some (.slice a l.length c) := HI9.out.g.cell 1; have z0 : w9.cell? ⟨w.heap.size + 1, 0, none⟩ = some (.int .u64 b.epoch) := HI9.out.x.cell 0; have z1 : w9.cell? ⟨w.heap.size + 1, 1, none⟩ = some (.int .u64 b.base) := HI9.out.x.cell 1; have z2 : w9.cell? ⟨w.heap.size + 1, 2, none⟩ = some (.slice ab b.entries.length cb) := HI9.out.x.cell 2; have h0' : w9.cell? ⟨w3.heap.size, 0, none⟩ = some (.int .u64 e3) := HI9.out.h.cell 0; have h1' : w9.cell? ⟨w3.heap.size, 1, none⟩ = some (.slice a3 L3.length c3) := HI9.out.h.cell 1; clear hown9 hgrow9 hat9 hb9 hbj hbk OF9)
                refine hK.out _ _ ?_ (fun hHeld => ?_)
                · ((try dsimp only); refine ⟨?_, ?_, ?_, ?_, ?_⟩ <;> (first | assumption | (go_keep; done)))
                clear hK K
                (try simp only [Act.put, List.setIfInBounds_toArray, List.set_cons_zero, List.set_cons_succ])
                refine wpAnyH_take (i := 8) (oi := _) (v := ?_) rfl (by decide +kernel) (by decide +kernel) (by decide +kernel) (fun _ _ _ h => h) (Or.inl ⟨by rfl, ?_⟩) (by assumption) ?_
                rotate_left
                · (intro w hSw; (try dsimp only at hSw); go_simp <;> with_reducible rfl)
                (try simp only [Act.put, List.setIfInBounds_toArray, List.set_cons_zero, List.set_cons_succ])
                refine wpAnyH_take (i := 9) (oi := _) (v := ?_) rfl (by decide +kernel) (by decide +kernel) (by decide +kernel) (fun _ _ _ h => h) (Or.inl ⟨by rfl, ?_⟩) (by assumption) ?_
                rotate_left
                · (intro w hSw; (try dsimp only at hSw); go_simp <;> with_reducible rfl)
                (try simp only [Act.put, List.setIfInBounds_toArray, List.set_cons_zero, List.set_cons_succ])
                refine wpAnyH_done (by kernel_rfl) ?_ _
                show wpList _ _ _ _ _ _
                have hzH : w3.heap.size < w7.heap.size := HI7.out.h.lt
                have hb49 : Below w4.heap.size w4 (w9.setCell ⟨w7.heap.size, 1, none⟩ (.slice a9 (l.length + 1) c9)) := HI9.out.later4.setCell (HI7.out.later4.size) _
                have hbw9 : Below w.heap.size w (w9.setCell ⟨w7.heap.size, 1, none⟩ (.slice a9 (l.length + 1) c9)) := HI9.out.below.setCell hzG _
                have hx9 : rBatches.r (· < (w9.setCell ⟨w7.heap.size, 1, none⟩ (.slice a9 (l.length + 1) c9)).heap.size) (w9.setCell ⟨w7.heap.size, 1, none⟩ (.slice a9 (l.length + 1) c9)) [.slice a3 L3.length c3] L3 := lift HV4.out hb49
                have hy9 : rBatches.r (· < (w9.setCell ⟨w7.heap.size, 1, none⟩ (.slice a9 (l.length + 1) c9)).heap.size) (w9.setCell ⟨w7.heap.size, 1, none⟩ (.slice a9 (l.length + 1) c9)) [.slice a9 (l.length + 1) c9] L3 := by
                  rw [← HL3'.out]
                  have h := OwnElsF.slice HP9.out
                  have hq2 : ∀ q, (q < w.heap.size ∨ (Value.slice a9 (l.length + 1) c9).ownBlock = some q) → q ≠ w7.heap.size ∧ q < w9.heap.size := fun q hq => by
                    rcases hq with hq | hq
                    · omega
                    · have := own_lt HP9.out.1 q hq; omega
                  refine rBatches.mono (rBatches.keep h fun q hq => Below.heap_setCell _ _ _ _ (hq2 q hq).1) fun q hq => by have := (hq2 q hq).2; simpa using this
                have HSM := hid (ref34_same e3 e3 L3 L3 a3 a9 _ c3 _ c9 _ hx9 hy9)
                rw [decide_eq_true rfl] at HSM
                clear hx9 hy9
                go_wp2_with fail
                refine HSM.out.mono ?_
                rintro r w10 ⟨rfl, hb10⟩
                have hH10 := (HI9.out.h.far (p := ⟨w7.heap.size, 1, none⟩) (by dsimp only; omega) (.slice a9 (l.length + 1) c9)).later hb10
                have q0 : w10.cell? ⟨w3.heap.size, 0, none⟩ = some (.int .u64 e3) := hH10.cell 0
                have q1 : w10.cell? ⟨w3.heap.size, 1, none⟩ = some (.slice a3 L3.length c3) := hH10.cell 1
                have hb410 := below_then hb10 hb49
                have hbw10 := below_then hb10 hbw9
                clear hH10 hb10 HSM hb49 hbw9
                go_wp2_with fail
                refine (HSR.out w10 hb410).mono ?_
                rintro r w11 ⟨rfl, hb11⟩
                go_wp2_with fail
                refine (live34 _).mono ?_
                rintro r w12 ⟨rfl, hb12⟩
                have hbe := below_then hb12 (below_then hb11 hbw10)
                go_wp2
                go_ret
                exact ⟨rfl, hbe⟩
    · rw [hl2] at H25
      clear hl1 hl2
      go_enter Tryz.func7, Tryz.ntmps7
      go_wp2_with fail
      refine (H34.out _ HI0.out.below).mono ?_
      rintro r w1 ⟨rfl, hb1'⟩
      have HI1 := hid (HI0.out.later hb1')
      clear hb1'
      have x0 : w1.cell? ⟨w.heap.size + 1, 0, none⟩ = some (.int .u64 b.epoch) := HI1.out.x.cell 0
      have x1 : w1.cell? ⟨w.heap.size + 1, 1, none⟩ = some (.int .u64 b.base) := HI1.out.x.cell 1
      have x2 : w1.cell? ⟨w.heap.size + 1, 2, none⟩ = some (.slice ab b.entries.length cb) := HI1.out.x.cell 2
      go_wp2_with fail
      refine (H25.out _ HI1.out.below).mono ?_
      rintro r w2 ⟨rfl, hb2'⟩
      clear x0 x1 x2
      have HI2 := hid (HI1.out.later hb2')
      clear hb2'
      go_wp2_with fail
      refine (live34 _).mono ?_
      rintro r w9 ⟨rfl, hb9⟩
      have hbe := below_then hb9 HI2.out.below
      go_wp2
      go_ret
      exact ⟨rfl, hbe⟩
  · rw [hl1] at H34
    clear hl1
    go_enter Tryz.func7, Tryz.ntmps7
    go_wp2_with fail
    refine (H34.out _ HI0.out.below).mono ?_
    rintro r w1 ⟨rfl, hb1'⟩
    have HI1 := hid (HI0.out.later hb1')
    go_wp2_with fail
    refine (live34 _).mono ?_
    rintro r w9 ⟨rfl, hb9⟩
    have hbe := below_then hb9 HI1.out.below
    go_wp2
    go_ret
    exact ⟨rfl, hbe⟩

set_option maxRecDepth 100000 in
theorem seg_arg {H : Type} (enc : TypeId × Value → H) (W : World) (base : Nat) (v0 : Value) (d0 : DataW H) (p0 : List MemPlace)
    (k0 : DataW.Trod enc Tryz.prog W 0 (fun _ => true) true 62 v0 d0 p0) (o0 : Value.okWide Tryz.prog W .any base 62 v0) :
    ∃ (ep : Int) (l : List Batch) (a : Option Addr) (n c : Nat), v0 = .agg #[.int .u64 ep, .slice a n c] ∧ (0 ≤ ep ∧ ep ≤ 18446744073709551615) ∧ rBatches.r (· < W.heap.size) W [.slice a n c] l := by
  obtain ⟨fuel, hf⟩ := k0
  obtain ⟨cs, rfl, hsz⟩ := Go.WideShapes.okWide_struct Tryz.underlying62 o0
  obtain ⟨u, hu⟩ := o_seg enc W fuel _ _ hf
  obtain ⟨a, c, hcs, h0, hl⟩ := seg_cells hu
  have e : cs = #[.int .u64 u.epoch, .slice a u.batches.length c] := by
    have := hcs
    simp only [Value.cells] at this
    exact Array.ext' this
  exact ⟨u.epoch, u.batches, a, _, c, by rw [e], h0, hl⟩
set_option maxRecDepth 100000 in
theorem batch_arg34 {H : Type} (enc : TypeId × Value → H) (W : World) (base : Nat) (v0 : Value) (d0 : DataW H) (p0 : List MemPlace)
    (k0 : DataW.Trod enc Tryz.prog W 0 (fun _ => true) true 25 v0 d0 p0) (o0 : Value.okWide Tryz.prog W .any base 25 v0) :
    ∃ (b : Batch) (a : Option Addr) (n c : Nat), v0 = .agg #[.int .u64 b.epoch, .int .u64 b.base, .slice a n c] ∧ rBatch.r (· < W.heap.size) W [.int .u64 b.epoch, .int .u64 b.base, .slice a n c] b := by
  obtain ⟨fuel, hf⟩ := k0
  obtain ⟨cs, rfl, hsz⟩ := Go.WideShapes.okWide_struct Tryz.underlying25 o0
  obtain ⟨u, hu⟩ := o_batch enc W fuel _ _ hf
  obtain ⟨a, c, hcs, h0, h1, hl⟩ := batch_cells hu
  have e : cs = #[.int .u64 u.epoch, .int .u64 u.base, .slice a u.entries.length c] := by
    have := hcs
    simp only [Value.cells] at this
    exact Array.ext' this
  exact ⟨u, a, _, c, by rw [e], by rw [← hcs]; exact hu⟩
set_option maxRecDepth 100000 in
theorem segmentAppends_walk {H : Type} (enc : TypeId × Value → H) (W : World) (base : Nat) (v0 v1 : Value) (d0 d1 : DataW H) (p0 p1 : List MemPlace)
    (k0 : DataW.Trod enc Tryz.prog W 0 (fun _ => true) true 62 v0 d0 p0) (k1 : DataW.Trod enc Tryz.prog W 0 (fun _ => true) true 25 v1 d1 p1)
    (o0 : Value.okWide Tryz.prog W .any base 62 v0) (o1 : Value.okWide Tryz.prog W .any base 25 v1) :
    Calls Tryz.prog 7 #[v0, v1] W fun e w' => e = .returned (.bool true) ∧ Below W.heap.size W w' := by
  obtain ⟨ep, l, a, n, c, rfl, h0, hl⟩ := seg_arg enc W base v0 d0 p0 k0 o0
  obtain ⟨b, a', n', c', rfl, hb⟩ := batch_arg34 enc W base v1 d1 p1 k1 o1
  exact segmentAppends_c ep l b a n c a' n' c' W h0 hl hb
end Go.Proofs.YtkipiefcnjfdjaaGreat
