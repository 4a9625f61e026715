/- Needed by segmentJoins_walk, part 2: texts put together by shake.py; no condition. -/
import Derived.Test.YtkipiefcnjfdjaaGreatX1
import Derived.Laws.Bits64
import Derived.Test.YtkipiefcnjfdjaaGreatRows
import Derived.Maps.AppendAt
import Derived.Deep.AppendLies
import Derived.ProofKit
import Derived.OpenShut
import Derived.Deep.Slices
import Derived.Lib.SmallJoins
import Derived.WalkKit
import Derived.WalkLawsBesides
import Derived.WalkSpells
import Derived.Outline
import Derived.BigQuiet
import Derived.Deep.QuietTactic
import Derived.Lib.SlBytesConst
import Derived.Laws.IdiomStrings
import Derived.Laws.BytesArg
import Derived.StillTailTactics
import Derived.Maps.OwnOps
import Derived.Maps.Views
import Derived.Sort.QuietThIn
import Derived.Sort.BigQuietIn
import Derived.Sort.QuietTacIn
import Derived.RangeFuncNested
import Derived.RangeFuncBound
import Derived.RangeFuncCalls
import Derived.RangeFuncLeaves
import Derived.Shelf.Abstract
import Derived.Shelf.RegionOpen
import Derived.OwnWalkIn
import Derived.TacticsInMore
import Derived.LoopNIn
import Derived.LoopIn
import Derived.Maps.OwnIn
import Derived.StillTail
import Derived.RegionTactic
import Derived.OrdersHeld
import Derived.Deep.RegionHeld
import Derived.BigRegion
import Derived.Deep.Cut
import Derived.Deep.RegionHeld3
import Derived.IntWalk
import Derived.ScopeJumps
import Derived.WalkMore
import Derived.Laws.MakeOwn
import Derived.Lib.ConvBytes
import Derived.Laws.AppendOwn
import Derived.Laws.BitsAllLaws
import Derived.Deep.RegionLaw
import Derived.Test.YtkipiefcnjfdjaaGreatY1
namespace Go.Proofs.YtkipiefcnjfdjaaGreat
open Go.RowKit Go.Bs
set_option linter.unusedVariables false
set_option linter.unusedSimpArgs false
theorem chainR_up {e e' : Int} (h : e ≤ e') : ∀ (l : List Batch) (p : Option Batch), chainR e p l = true → chainR e' p l = true
  | [], _, _ => rfl
  | b :: l, p, hc => by
    simp only [chainR, Bool.and_eq_true] at hc ⊢
    refine ⟨hc.1, ?_, chainR_up h l _ hc.2.2⟩
    have hm := hc.2.1
    simp only [mayR, Bool.and_eq_true, decide_eq_true_eq] at hm ⊢
    exact ⟨by omega, hm.2⟩
theorem chainR_app (e : Int) (lb : List Batch) : ∀ (la : List Batch) (p : Option Batch), chainR e p (la ++ lb) = (chainR e p la && chainR e (la.getLast?.or p) lb)
  | [], p => by simp [chainR]
  | x :: la, p => by
    simp only [List.cons_append, chainR]
    rw [chainR_app e lb la (some x)]
    have : (x :: la).getLast?.or p = la.getLast?.or (some x) := by
      rw [List.getLast?_cons]
      cases la.getLast? <;> rfl
    rw [this]
    cases batchR x <;> cases mayR e p x <;> simp
theorem segR_join {ea eb : Int} {la lb : List Batch} (h1 : segR ⟨ea, la⟩ = true) (h2 : segR ⟨eb, lb⟩ = true) (he : ¬ eb < ea) (hm : ∀ h : 0 < lb.length, mayR eb (prevB la la.length) (lb[0]'h) = true) (hl : ¬ 16 < la.length + lb.length) : segR ⟨eb, la ++ lb⟩ = true := by
  simp only [segR, Bool.and_eq_true, decide_eq_true_eq] at h1 h2 ⊢
  refine ⟨h2.1, by rw [List.length_append]; omega, ?_⟩
  rw [chainR_app, chainR_up (by omega) la none h1.2.2, Bool.true_and, Option.or_none]
  cases lb with
  | nil => rfl
  | cons b l =>
    have h3 := hm (by simp)
    rw [prevB_last] at h3
    have h4 := h2.2.2
    simp only [chainR, Bool.and_eq_true] at h4 ⊢
    exact ⟨h4.1, h3, h4.2.2⟩
theorem prevB_app (la lb : List Batch) : prevB (la ++ lb) la.length = prevB la la.length := by
  unfold prevB
  split
  · rfl
  · rw [List.getElem?_append_left (by omega)]
structure JlI (w W : World) (ea : Int) (a : Option Addr) (n c : Nat) (eb : Int) (a' : Option Addr) (n' c' : Nat) : Prop where
  below : Below w.heap.size w W
  g : Blk W w.heap.size 62 #[.int .u64 ea, .slice a n c]
  x : Blk W (w.heap.size + 1) 62 #[.int .u64 eb, .slice a' n' c']
structure JlH (w V W : World) (ea : Int) (a : Option Addr) (n c : Nat) (eb : Int) (a' : Option Addr) (n' c' : Nat) (gh : Nat) (e3 : Int) (a3 : Option Addr) (n3 c3 : Nat) (a9 : Option Addr) (n9 c9 : Nat) : Prop where
  below : Below w.heap.size w W
  g : Blk W w.heap.size 62 #[.int .u64 ea, .slice a n c]
  x : Blk W (w.heap.size + 1) 62 #[.int .u64 eb, .slice a' n' c']
  later4 : Below V.heap.size V W
  h : Blk W gh 62 #[.int .u64 e3, .slice a3 n3 c3]
  o : Blk W (gh + 1) 62 #[.int .u64 eb, .slice a9 n9 c9]
section
variable {w V W W' : World} {ea : Int} {a : Option Addr} {n c : Nat} {eb : Int} {a' : Option Addr} {n' c' : Nat} {gh : Nat} {e3 : Int} {a3 : Option Addr} {n3 c3 : Nat} {a9 : Option Addr} {n9 c9 : Nat}
theorem JlI.later (h : JlI w W ea a n c eb a' n' c') (hb : Below W.heap.size W W') : JlI w W' ea a n c eb a' n' c' := ⟨below_then hb h.below, h.g.later hb, h.x.later hb⟩
theorem JlH.later (h : JlH w V W ea a n c eb a' n' c' gh e3 a3 n3 c3 a9 n9 c9) (hb : Below W.heap.size W W') : JlH w V W' ea a n c eb a' n' c' gh e3 a3 n3 c3 a9 n9 c9 := ⟨below_then hb h.below, h.g.later hb, h.x.later hb, below_then hb h.later4, h.h.later hb, h.o.later hb⟩
end
set_option maxRecDepth 100000 in
set_option maxHeartbeats 6400000 in
theorem segmentJoins_c (ea eb : Int) (la lb : List Batch) (a : Option Addr) (n c : Nat) (a' : Option Addr) (n' c' : Nat) (w : World) (h0a : 0 ≤ ea ∧ ea ≤ 18446744073709551615) (hla : rBatches.r (· < w.heap.size) w [.slice a n c] la) (h0b : 0 ≤ eb ∧ eb ≤ 18446744073709551615) (hlb : rBatches.r (· < w.heap.size) w [.slice a' n' c'] lb) :
    Calls Tryz.prog 8 #[.agg #[.int .u64 ea, .slice a n c], .agg #[.int .u64 eb, .slice a' n' c']] w fun r w' => r = .returned (.bool true) ∧ Below w.heap.size w w' := by
  obtain ⟨rfl, hm, _, _⟩ := sl_len hla
  obtain ⟨rfl, hm2, _, _⟩ := sl_len hlb
  obtain ⟨i0, hi, hz0, hz1, hz2⟩ := info_parts infoBatch
  have H1 := hid (fun (W : World) (hW : Below w.heap.size w W) => law34_long ea la a _ c W (lift hla hW))
  have H2 := hid (fun (W : World) (hW : Below w.heap.size w W) => law34_long eb lb a' _ c' W (lift hlb hW))
  have HL := hid hla
  have HE := hid hlb
  have HI0 : Hid (JlI w ((w.alloc (.cells #[.int .u64 ea, .slice a la.length c] 62)).alloc (.cells #[.int .u64 eb, .slice a' lb.length c'] 62)) ea a la.length c eb a' lb.length c') := hid
    ⟨below_alloc (below_alloc (Below.refl _ _) _) _, (Blk.new w _ _).alloc _, Blk.new1 w _ _ _⟩
  clear hla hlb
  cases hl1 : long34 la
  · rw [hl1] at H1
    cases hl2 : long34 lb
    · rw [hl2] at H2
      obtain ⟨hA20, hLA⟩ := long34_no hl1
      obtain ⟨hB20, hLB⟩ := long34_no hl2
      have hfa : ∀ x ∈ la, Fair x.entries := fun x hx => (tame_fair (hLA x hx)).1
      have hfb : ∀ x ∈ lb, Fair x.entries := fun x hx => (tame_fair (hLB x hx)).1
      have HJ := hid (fun (W : World) (hW : Below w.heap.size w W) => segment_join ea eb la lb a _ c a' _ c' W h0a (lift HL.out hW) h0b (lift HE.out hW) hfa hfb (fun x hx => (tame_fair (hLA x hx)).2) (fun x hx => (tame_fair (hLB x hx)).2))
      have HR1 := hid (fun (W : World) (hW : Below w.heap.size w W) => ref34_right ea la a _ c W h0a (lift HL.out hW) hfa)
      have HR2 := hid (fun (W : World) (hW : Below w.heap.size w W) => ref34_right eb lb a' _ c' W h0b (lift HE.out hW) hfb)
      have HFA := hid hfa
      have HFBB := hid hfb
      clear hl1 hl2 hLA hLB hfa hfb
      go_enter Tryz.func8, Tryz.ntmps8
      go_wp2_with fail
      refine (H1.out _ HI0.out.below).mono ?_
      rintro r w1 ⟨rfl, hb1⟩
      have HI1 := hid (HI0.out.later hb1)
      clear hb1
      have x0 : w1.cell? ⟨w.heap.size + 1, 0, none⟩ = some (.int .u64 eb) := HI1.out.x.cell 0
      have x1 : w1.cell? ⟨w.heap.size + 1, 1, none⟩ = some (.slice a' lb.length c') := HI1.out.x.cell 1
      go_wp2_with fail
      refine (H2.out _ HI1.out.below).mono ?_
      rintro r w2 ⟨rfl, hb2⟩
      clear x0 x1
      have HI2 := hid (HI1.out.later hb2)
      clear hb2
      have g0 : w2.cell? ⟨w.heap.size, 0, none⟩ = some (.int .u64 ea) := HI2.out.g.cell 0
      have g1 : w2.cell? ⟨w.heap.size, 1, none⟩ = some (.slice a la.length c) := HI2.out.g.cell 1
      have x0 : w2.cell? ⟨w.heap.size + 1, 0, none⟩ = some (.int .u64 eb) := HI2.out.x.cell 0
      have x1 : w2.cell? ⟨w.heap.size + 1, 1, none⟩ = some (.slice a' lb.length c') := HI2.out.x.cell 1
      go_wp2_with fail
      refine (HJ.out _ HI2.out.below).mono ?_
      rintro r w3 ⟨v3, e3, rfl, he3, hv3, hb3⟩
      obtain ⟨a3, c3, hfv, hv3', _⟩ := sl_form hv3
      simp only [List.cons.injEq, and_true] at hfv
      subst hfv
      clear g0 g1 x0 x1
      have HI3 := hid (HI2.out.later hb3)
      have HV3 := hid (rBatches.mono (S' := (· < w3.heap.size)) hv3' fun q hq => (by simpa [Fresh] using hq : w2.heap.size ≤ q ∧ q < w3.heap.size).2)
      clear hv3 hv3' hb3
      generalize hL3 : (if joinC ea la eb lb = 0 then la ++ lb else []) = L3 at *
      generalize hC : joinC ea la eb lb = C at *
      have HE3 := hid he3
      have HL3 := hid hL3
      have HC := hid hC
      clear he3 hL3 hC
      have hzw3 : w.heap.size < w3.heap.size := HI3.out.g.lt
      have hzw4 : w.heap.size + 1 < w3.heap.size := HI3.out.x.lt
      have g0 : w3.cell? ⟨w.heap.size, 0, none⟩ = some (.int .u64 ea) := HI3.out.g.cell 0
      have g1 : w3.cell? ⟨w.heap.size, 1, none⟩ = some (.slice a la.length c) := HI3.out.g.cell 1
      have x0 : w3.cell? ⟨w.heap.size + 1, 0, none⟩ = some (.int .u64 eb) := HI3.out.x.cell 0
      have x1 : w3.cell? ⟨w.heap.size + 1, 1, none⟩ = some (.slice a' lb.length c') := HI3.out.x.cell 1
      go_wp2_with fail
      clear g0 g1 x0 x1
      have hb3W : Below w3.heap.size w3 ((w3.alloc (.cells #[.int .u64 e3, .slice a3 L3.length c3] 62)).alloc (.cells #[.int .u64 eb, .slice none 0 0] 62)) := below_alloc (below_alloc (Below.refl _ _) _) _
      have hHW := (Blk.new w3 62 #[.int .u64 e3, .slice a3 L3.length c3]).alloc (.cells #[.int .u64 eb, .slice none 0 0] 62)
      have hOW := Blk.new1 w3 (.cells #[.int .u64 e3, .slice a3 L3.length c3] 62) 62 #[.int .u64 eb, .slice none 0 0]
      generalize (w3.alloc (.cells #[.int .u64 e3, .slice a3 L3.length c3] 62)).alloc (.cells #[.int .u64 eb, .slice none 0 0] 62) = W at *
      have HIW : Hid (JlH w W W ea a la.length c eb a' lb.length c' w3.heap.size e3 a3 L3.length c3 none 0 0) := hid ⟨(HI3.out.later hb3W).below, HI3.out.g.later hb3W, HI3.out.x.later hb3W, Below.refl _ _, hHW, hOW⟩
      have HB3W := hid hb3W
      have hzW : w3.heap.size + 1 < W.heap.size := hOW.lt
      have o1 : W.cell? ⟨w3.heap.size + 1, 1, none⟩ = some (.slice none 0 0) := hOW.cell 1
      have g1 : W.cell? ⟨w.heap.size, 1, none⟩ = some (.slice a la.length c) := HIW.out.g.cell 1
      have x1 : W.cell? ⟨w.heap.size + 1, 1, none⟩ = some (.slice a' lb.length c') := HIW.out.x.cell 1
      obtain ⟨cA, hcl, hcs, hcr, hsr, hone⟩ := sl_cells HL.out batch_one
      have HLA := hid hcl; have HZA := hid hcs; have HCA := hid hcr; have HSA := hid hsr; have HOA := hid hone
      clear hcl hcs hcr hsr hone
      obtain ⟨cB, hcl, hcs, hcr, hsr, hone⟩ := sl_cells HE.out batch_one
      have HLBB := hid hcl; have HZB := hid hcs; have HCB := hid hcr; have HSB := hid hsr; have HOB := hid hone
      clear hcl hcs hcr hsr hone hHW hOW hb3W
      refine wp_region_last_held (fun w' => w'.cell? ⟨w3.heap.size + 1, 1, none⟩ = some (.slice none 0 0) ∧ w'.cell? ⟨w.heap.size, 1, none⟩ = some (.slice a la.length c) ∧ w'.cell? ⟨w.heap.size + 1, 1, none⟩ = some (.slice a' lb.length c')) _ (by kernel_rfl) rfl (by kernel_rfl) ⟨o1, g1, x1⟩ (fun hHeld => ?_)
      simp only [noopLast, noopOf]
      refine wpAnyH_take (i := 0) (oi := _) (v := ?_) rfl (by decide +kernel) (by decide +kernel) (by decide +kernel) (fun _ _ _ h => h) (Or.inl ⟨by rfl, ?_⟩) (by assumption) ?_
      rotate_left
      · (intro w hSw; (try dsimp only at hSw); go_simp <;> with_reducible rfl)
      (try simp only [Act.put, List.setIfInBounds_toArray, List.set_cons_zero, List.set_cons_succ])
      refine wpAnyH_take (i := 1) (oi := _) (v := ?_) rfl (by decide +kernel) (by decide +kernel) (by decide +kernel) (fun _ _ _ h => h) (Or.inl ⟨by rfl, ?_⟩) (by assumption) ?_
      rotate_left
      · (intro w hSw; (try dsimp only at hSw); go_simp <;> with_reducible rfl)
      (try simp only [Act.put, List.setIfInBounds_toArray, List.set_cons_zero, List.set_cons_succ])
      refine wpAnyH_take (i := 2) (oi := _) (v := ?_) rfl (by decide +kernel) (by decide +kernel) (by decide +kernel) (fun _ _ _ h => h) (Or.inl ⟨by rfl, ?_⟩) (by assumption) ?_
      rotate_left
      · (intro w hSw; (try dsimp only at hSw); go_simp <;> with_reducible rfl)
      (try simp only [Act.put, List.setIfInBounds_toArray, List.set_cons_zero, List.set_cons_succ])
      refine wpAnyH_take (i := 3) (oi := _) (v := ?_) rfl (by decide +kernel) (by decide +kernel) (by decide +kernel) (fun _ _ _ h => h) (Or.inl ⟨by rfl, ?_⟩) (by assumption) ?_
      rotate_left
      · (intro w hSw; (try dsimp only at hSw); go_simp <;> with_reducible rfl)
      (try simp only [Act.put, List.setIfInBounds_toArray, List.set_cons_zero, List.set_cons_succ])
      refine wpAnyH_take (i := 5) (oi := _) (v := ?_) rfl (by decide +kernel) (by decide +kernel) (by decide +kernel) (fun _ _ _ h => h) (Or.inl ⟨by rfl, ?_⟩) (by assumption) ?_
      rotate_left
      · (intro w hSw; (try dsimp only at hSw); go_simp <;> with_reducible rfl)
      (try simp only [Act.put, List.setIfInBounds_toArray, List.set_cons_zero, List.set_cons_succ])
      refine wpAnyH_take (i := 6) (oi := _) (v := ?_) rfl (by decide +kernel) (by decide +kernel) (by decide +kernel) (fun _ _ _ h => h) (Or.inl ⟨by rfl, ?_⟩) (by assumption) ?_
      rotate_left
      · (intro w hSw; (try dsimp only at hSw); go_simp <;> with_reducible rfl)
      (try simp only [Act.put, List.setIfInBounds_toArray, List.set_cons_zero, List.set_cons_succ])
      refine wpAnyH_ready (rs := [4]) (by decide +kernel) (by simp) ?_
      refine AllReadyH.cons (o := _) rfl (fun K hK => ?_) AllReadyH.nil
      (have hbi : Below w.heap.size w W.drew := HIW.out.below.drew; refine step_append_src (by rfl) _ _ _ (by rfl) W.heap.size 25 i0 (.agg #[.int .u64 0, .int .u64 0, .slice none 0 0]) 3 40 Tryz.underlying60 hi hz0 hz1 hz2 rfl (by decide) (.slice none 0 0) 0 [] (by rfl) ⟨rfl, .inl ⟨rfl, rfl⟩⟩ a la.length c cA.flatten (by rfl) (HSA.out _ fun q hq => hbi.block q hq) HOA.out (by simp only [maxLen]; omega) (by omega) (Nat.le_refl _) ?_; intro a8 c8 w8 hown8 hgrow8 hat8; have hb8 : Below W.heap.size W w8 := ((Below.refl W.heap.size W).drew).grown hgrow8 (Nat.le_refl _) (fun g e => by cases e); have OF8 := OwnElsF.app (OwnElsF.nil (w := W.drew) (F := fun q => q < w.heap.size) (A := rBatch) (base := W.heap.size) (e := 25) (sz := 3)) (fun q hq => by have := hbi.size; omega) HLA.out HZA.out (fun i cs y hi hy => rBatch.mono (rBatch.keep (HCA.out i cs y hi hy) fun q hq => hbi.block q hq) fun q hq => ⟨hq, fun e => by cases e⟩) hown8 hgrow8 hat8; simp only [Nat.zero_add, List.nil_append] at OF8 ⊢; have HF8 := hid OF8; have HI8 := hid (HIW.out.later hb8); have HB8 := hid hb8; have o2 : w8.cell? ⟨w3.heap.size + 1, 1, none⟩ = some (.slice none 0 0) := HI8.out.o.cell 1; have g2 : w8.cell? ⟨w.heap.size, 1, none⟩ = some (.slice a la.length c) := HI8.out.g.cell 1; have y1 : w8.cell? ⟨w.heap.size + 1, 1, none⟩ = some (.slice a' lb.length c') := HI8.out.x.cell 1; have hz8 := hb8.size; clear hown8 OF8 hat8 hgrow8 hb8 hbi)
      refine hK.out _ _ ?_ (fun hHeld => ?_)
      · ((try dsimp only); refine ⟨?_, ?_, ?_⟩ <;> (first | assumption | (go_keep; done)))
      clear hK K
      (try simp only [Act.put, List.setIfInBounds_toArray, List.set_cons_zero, List.set_cons_succ])
      refine wpAnyH_ready (rs := [7]) (by decide +kernel) (by simp) ?_
      refine AllReadyH.cons (o := _) rfl (fun K hK => ?_) AllReadyH.nil
      (have hbk : Below w.heap.size w w8 := HI8.out.below; have HNO : ∀ q, (Value.slice a8 la.length c8).ownBlock = some q → W.heap.size ≤ q := fun q e => (own_lt HF8.out.1 q e).1; refine step_append_src (by rfl) _ _ _ (by rfl) W.heap.size 25 i0 (.agg #[.int .u64 0, .int .u64 0, .slice none 0 0]) 3 40 Tryz.underlying60 hi hz0 hz1 hz2 rfl (by decide) (.slice a8 la.length c8) la.length cA.flatten (by rfl) HF8.out.1 a' lb.length c' cB.flatten (by rfl) (HSB.out _ fun q hq => hbk.block q hq) HOB.out (by simp only [maxLen]; omega) (by omega) hz8 ?_; intro a9 c9 w9 hown9 hgrow9 hat9; have HP9 := hid (OwnElsF.app HF8.out (fun q hq => by have := hbk.size; omega) HLBB.out HZB.out (fun i cs y hi hy => rBatch.mono (rBatch.keep (HCB.out i cs y hi hy) fun q hq => hbk.block q hq) fun q hq => ⟨hq, fun e => by have := HNO q e; omega⟩) hown9 hgrow9 hat9); have hb9 : Below W.heap.size W w9 := HB8.out.grown hgrow9 hz8 (fun g e => HNO g e); have HI9 := hid (HIW.out.later hb9); have HB9 := hid hb9; have o3 : w9.cell? ⟨w3.heap.size + 1, 1, none⟩ = some (.slice none 0 0) := HI9.out.o.cell 1; have of3 : w9.frozen? ⟨w3.heap.size + 1, 1, none⟩ = false := HI9.out.o.free 1; have hzo : w3.heap.size + 1 < w9.heap.size := HI9.out.o.lt; have g3 : w9.cell? ⟨w.heap.size, 1, none⟩ = some (.slice a la.length c) := HI9.out.g.cell 1; have g4 : w9.cell? ⟨w.heap.size, 0, none⟩ = some (.int .u64 ea) := HI9.out.g.cell 0; have z1 : w9.cell? ⟨w.heap.size + 1, 1, none⟩ = some (.slice a' lb.length c') := HI9.out.x.cell 1; clear hown9 hgrow9 hat9 hb9 hbk HNO)
      refine hK.out _ _ ?_ (fun hHeld => ?_)
      · ((try dsimp only); refine ⟨?_, ?_, ?_⟩ <;> (first | assumption | (go_keep; done)))
      clear hK K
      (try simp only [Act.put, List.setIfInBounds_toArray, List.set_cons_zero, List.set_cons_succ])
      refine wpAnyH_take (i := 8) (oi := _) (v := ?_) rfl (by decide +kernel) (by decide +kernel) (by decide +kernel) (fun _ _ _ h => h) (Or.inl ⟨by rfl, ?_⟩) (by assumption) ?_
      rotate_left
      · (intro w hSw; (try dsimp only at hSw); go_simp <;> with_reducible rfl)
      (try simp only [Act.put, List.setIfInBounds_toArray, List.set_cons_zero, List.set_cons_succ])
      refine wpAnyH_take (i := 9) (oi := _) (v := ?_) rfl (by decide +kernel) (by decide +kernel) (by decide +kernel) (fun _ _ _ h => h) (Or.inl ⟨by rfl, ?_⟩) (by assumption) ?_
      rotate_left
      · (intro w hSw; (try dsimp only at hSw); go_simp <;> with_reducible rfl)
      (try simp only [Act.put, List.setIfInBounds_toArray, List.set_cons_zero, List.set_cons_succ])
      refine wpAnyH_done (by kernel_rfl) ?_ _
      show wpList _ _ _ _ _ _
      go_wp2_with fail
      obtain ⟨LB, hLB⟩ : ∃ LB, LB = la ++ lb := ⟨_, rfl⟩
      have hlen : la.length + lb.length = LB.length := by rw [hLB, List.length_append]
      rw [hlen]
      rw [hlen] at HP9
      have hb39 : Below w3.heap.size w3 w9 := below_then HB9.out HB3W.out
      have hzwg : w.heap.size ≤ w3.heap.size + 1 := by omega
      have HIV : Hid (JlH w (w9.setCell ⟨w3.heap.size + 1, 1, none⟩ (.slice a9 LB.length c9)) (w9.setCell ⟨w3.heap.size + 1, 1, none⟩ (.slice a9 LB.length c9)) ea a la.length c eb a' lb.length c' w3.heap.size e3 a3 L3.length c3 a9 LB.length c9) := hid
        ⟨HI9.out.below.setCell hzwg _, HI9.out.g.far (by first | omega | (dsimp only; omega)) _, HI9.out.x.far (by first | omega | (dsimp only; omega)) _, Below.refl _ _, HI9.out.h.far (by first | omega | (dsimp only; omega)) _, HI9.out.o.set 1 _⟩
      have HVV : Hid (rBatches.r (· < (w9.setCell ⟨w3.heap.size + 1, 1, none⟩ (.slice a9 LB.length c9)).heap.size) (w9.setCell ⟨w3.heap.size + 1, 1, none⟩ (.slice a9 LB.length c9)) [.slice a3 L3.length c3] L3) := hid (rBatches.mono (rBatches.keep HV3.out fun q hq => (Below.heap_setCell _ _ _ _ (by first | omega | (dsimp only; omega))).trans (hb39.block q hq)) fun q hq => by have := hb39.size; simp; omega)
      have HBB : Hid (rBatches.r (· < (w9.setCell ⟨w3.heap.size + 1, 1, none⟩ (.slice a9 LB.length c9)).heap.size) (w9.setCell ⟨w3.heap.size + 1, 1, none⟩ (.slice a9 LB.length c9)) [.slice a9 LB.length c9] LB) := hid (by
        have h := OwnElsF.slice HP9.out
        rw [← hLB] at h
        have hq2 : ∀ q, (q < w.heap.size ∨ (Value.slice a9 LB.length c9).ownBlock = some q) → q ≠ w3.heap.size + 1 ∧ q < w9.heap.size := fun q hq => by
          rcases hq with hq | hq
          · omega
          · have := own_lt HP9.out.1 q hq; omega
        exact rBatches.mono (rBatches.keep h fun q hq => Below.heap_setCell _ _ _ _ (hq2 q hq).1) fun q hq => by have := (hq2 q hq).2; simpa using this)
      generalize (w9.setCell ⟨w3.heap.size + 1, 1, none⟩ (.slice a9 LB.length c9)) = V at *
      have HLB := hid hLB
      have hLA : la.length ≤ LB.length := by omega
      have hpv : prevB LB la.length = prevB la la.length := by rw [hLB]; exact prevB_app la lb
      have hLBR : (∀ x ∈ la, batchR x = true) → ∀ i, (h : i < LB.length) → i < la.length → batchR LB[i] = true := fun hall i h h2 => by
        subst hLB
        rw [List.getElem_append_left h2]
        exact hall _ (List.getElem_mem h2)
      have HLR := hid hLBR
      have d16 : decide ((16 : Int) < (LB.length : Int)) = decide (16 < la.length + lb.length) := by rw [hlen]; simp only [decide_eq_decide]; omega
      have HD := hid d16
      have HPV := hid hpv
      have HLEN := hid hlen
      clear hLB hlen d16 hpv hLBR g1 g2 g3 g4 o1 o2 o3 of3 x1 y1 z1 hzo hz8 hzW hb39
      cases hs1 : segR ⟨ea, la⟩
      · rw [hs1] at HR1
        obtain rfl : C = 3 := HC.out.symm.trans (by unfold joinC; rw [if_pos (.inl hs1)])
        obtain rfl : L3 = [] := HL3.out.symm
        obtain rfl : e3 = 0 := HE3.out
        clear hs1
        refine (HR1.out _ HIV.out.below).mono ?_
        rintro r w5 ⟨rfl, hb5⟩
        have HI5 := hid (HIV.out.later hb5)
        clear hb5
        have h0 : w5.cell? ⟨w3.heap.size, 0, none⟩ = some (.int .u64 0) := HI5.out.h.cell 0
        have h1 : w5.cell? ⟨w3.heap.size, 1, none⟩ = some (.slice a3 0 c3) := HI5.out.h.cell 1
        go_wp2_with fail
        have hsm := ref34_same 0 0 [] [] a3 none 0 c3 0 0 w5 (lift HVV.out (HI5.out.later4)) (rSl_mk (xs := []) rfl (Nat.le_refl _) (Nat.zero_le _) (.inl rfl))
        rw [show decide ((⟨0, []⟩ : Seg) = ⟨0, []⟩) = true from decide_eq_true rfl] at hsm
        refine hsm.mono ?_
        rintro r w8 ⟨rfl, hb8⟩
        clear hsm
        go_wp2_with fail
        refine (live34 _).mono ?_
        rintro r w9 ⟨rfl, hb9⟩
        have hbe := below_then hb9 (below_then hb8 HI5.out.below)
        go_wp2
        go_ret
        exact ⟨rfl, hbe⟩
      · rw [hs1] at HR1
        cases hs2 : segR ⟨eb, lb⟩
        · rw [hs2] at HR2
          obtain rfl : C = 3 := HC.out.symm.trans (by unfold joinC; rw [if_pos (.inr hs2)])
          obtain rfl : L3 = [] := HL3.out.symm
          obtain rfl : e3 = 0 := HE3.out
          clear hs1 hs2
          refine (HR1.out _ HIV.out.below).mono ?_
          rintro r w5 ⟨rfl, hb5⟩
          have HI5 := hid (HIV.out.later hb5)
          clear hb5
          have x0 : w5.cell? ⟨w.heap.size + 1, 0, none⟩ = some (.int .u64 eb) := HI5.out.x.cell 0
          have x1 : w5.cell? ⟨w.heap.size + 1, 1, none⟩ = some (.slice a' lb.length c') := HI5.out.x.cell 1
          go_wp2_with fail
          refine (HR2.out _ HI5.out.below).mono ?_
          rintro r w6 ⟨rfl, hb6⟩
          clear x0 x1
          have HI6 := hid (HI5.out.later hb6)
          clear hb6
          have h0 : w6.cell? ⟨w3.heap.size, 0, none⟩ = some (.int .u64 0) := HI6.out.h.cell 0
          have h1 : w6.cell? ⟨w3.heap.size, 1, none⟩ = some (.slice a3 0 c3) := HI6.out.h.cell 1
          go_wp2_with fail
          have hsm := ref34_same 0 0 [] [] a3 none 0 c3 0 0 w6 (lift HVV.out (HI6.out.later4)) (rSl_mk (xs := []) rfl (Nat.le_refl _) (Nat.zero_le _) (.inl rfl))
          rw [show decide ((⟨0, []⟩ : Seg) = ⟨0, []⟩) = true from decide_eq_true rfl] at hsm
          refine hsm.mono ?_
          rintro r w8 ⟨rfl, hb8⟩
          clear hsm
          go_wp2_with fail
          refine (live34 _).mono ?_
          rintro r w9 ⟨rfl, hb9⟩
          have hbe := below_then hb9 (below_then hb8 HI6.out.below)
          go_wp2
          go_ret
          exact ⟨rfl, hbe⟩
        · rw [hs2] at HR2
          have hla16 : la.length ≤ 16 := (segR_facts hs1).2.1
          have hlb16 : lb.length ≤ 16 := (segR_facts hs2).2.1
          have hLBR := HLR.out (segR_facts hs1).2.2
          have hnot : ¬ (segR ⟨ea, la⟩ = false ∨ segR ⟨eb, lb⟩ = false) := by simp [hs1, hs2]
          have HS1 := hid hs1
          have HS2 := hid hs2
          clear hs1 hs2
          by_cases hlt : eb < ea
          · have d1 : decide (eb < ea) = true := decide_eq_true hlt
            obtain rfl : C = 13 := HC.out.symm.trans (by unfold joinC; rw [if_neg hnot, if_pos (.inl hlt)])
            obtain rfl : L3 = [] := HL3.out.symm
            obtain rfl : e3 = 0 := HE3.out
            clear hnot hlt hLBR
            refine (HR1.out _ HIV.out.below).mono ?_
            rintro r w5 ⟨rfl, hb5⟩
            have HI5 := hid (HIV.out.later hb5)
            clear hb5
            have x0 : w5.cell? ⟨w.heap.size + 1, 0, none⟩ = some (.int .u64 eb) := HI5.out.x.cell 0
            have x1 : w5.cell? ⟨w.heap.size + 1, 1, none⟩ = some (.slice a' lb.length c') := HI5.out.x.cell 1
            go_wp2_with fail
            refine (HR2.out _ HI5.out.below).mono ?_
            rintro r w6 ⟨rfl, hb6⟩
            clear x0 x1
            have HI6 := hid (HI5.out.later hb6)
            clear hb6
            have g0 : w6.cell? ⟨w.heap.size, 0, none⟩ = some (.int .u64 ea) := HI6.out.g.cell 0
            have g1 : w6.cell? ⟨w.heap.size, 1, none⟩ = some (.slice a la.length c) := HI6.out.g.cell 1
            have x0 : w6.cell? ⟨w.heap.size + 1, 0, none⟩ = some (.int .u64 eb) := HI6.out.x.cell 0
            have x1 : w6.cell? ⟨w.heap.size + 1, 1, none⟩ = some (.slice a' lb.length c') := HI6.out.x.cell 1
            have o0 : w6.cell? ⟨w3.heap.size + 1, 0, none⟩ = some (.int .u64 eb) := HI6.out.o.cell 0
            have o1 : w6.cell? ⟨w3.heap.size + 1, 1, none⟩ = some (.slice a9 LB.length c9) := HI6.out.o.cell 1
            have G0 := fun s : Later w6 => s.cell g0
            have G1 := fun s : Later w6 => s.cell g1
            have X0 := fun s : Later w6 => s.cell x0
            have X1 := fun s : Later w6 => s.cell x1
            have O0 := fun s : Later w6 => s.cell o0
            have O1 := fun s : Later w6 => s.cell o1
            clear g0 g1 x0 x1 o0 o1
            go_wp2_with fail
            refine wp_region_later (by kernel_rfl) (by kernel_rfl) ?_
            repeat (go_big_quiet_step (fail))
            refine wpQuiet_nil ?_
            rintro W7 ⟨⟨W7', hb7⟩, rfl⟩
            clear G0 G1 X0 X1 O0 O1
            have HI7 := hid (HI6.out.later hb7)
            clear hb7
            have h0 : W7.cell? ⟨w3.heap.size, 0, none⟩ = some (.int .u64 0) := HI7.out.h.cell 0
            have h1 : W7.cell? ⟨w3.heap.size, 1, none⟩ = some (.slice a3 0 c3) := HI7.out.h.cell 1
            go_wp2_with fail
            have hsm := ref34_same 0 0 [] [] a3 none 0 c3 0 0 W7 (lift HVV.out (HI7.out.later4)) (rSl_mk (xs := []) rfl (Nat.le_refl _) (Nat.zero_le _) (.inl rfl))
            rw [show decide ((⟨0, []⟩ : Seg) = ⟨0, []⟩) = true from decide_eq_true rfl] at hsm
            refine hsm.mono ?_
            rintro r w8 ⟨rfl, hb8⟩
            clear hsm
            go_wp2_with fail
            refine (live34 _).mono ?_
            rintro r w9 ⟨rfl, hb9⟩
            have hbe := below_then hb9 (below_then hb8 HI7.out.below)
            go_wp2
            go_ret
            exact ⟨rfl, hbe⟩
          · have d1 : decide (eb < ea) = false := decide_eq_false hlt
            rcases Nat.eq_zero_or_pos lb.length with hz | hz
            · have hno : ¬ (eb < ea ∨ (∃ h : 0 < lb.length, mayR eb (prevB la la.length) (lb[0]'h) = false)) := by
                rintro (h | ⟨h, _⟩)
                · exact hlt h
                · omega
              have hSR := segR_join HS1.out HS2.out hlt (fun h => by omega) (by omega)
              have hd16 := HD.out
              rw [decide_eq_false (show ¬ 16 < la.length + lb.length by omega)] at hd16
              have d17 : decide (16 < LB.length) = false := decide_eq_false (by have := HLEN.out; omega)
              obtain rfl : C = 0 := HC.out.symm.trans (by unfold joinC; rw [if_neg hnot, if_neg hno, if_neg (by omega)])
              have hL3 : la ++ lb = L3 := HL3.out
              obtain rfl : e3 = eb := HE3.out
              have hF3 : ∀ x ∈ L3, Fair x.entries := by
                rw [← hL3]; intro x hx
                rcases List.mem_append.1 hx with hx | hx
                · exact HFA.out x hx
                · exact HFBB.out x hx
              have HSR := hid (fun (W : World) (hW : Below V.heap.size V W) => ref34_right e3 L3 a3 _ c3 W h0b (lift HVV.out hW) hF3)
              rw [← hL3] at HSR
              rw [hSR] at HSR
              rw [hL3] at HSR
              have HL3' := hid hL3
              clear hF3 hL3 hSR
              obtain rfl := List.eq_nil_of_length_eq_zero hz
              clear hnot hno hlt hz hLBR
              refine (HR1.out _ HIV.out.below).mono ?_
              rintro r w5 ⟨rfl, hb5⟩
              have HI5 := hid (HIV.out.later hb5)
              clear hb5
              have x0 : w5.cell? ⟨w.heap.size + 1, 0, none⟩ = some (.int .u64 e3) := HI5.out.x.cell 0
              have x1 : w5.cell? ⟨w.heap.size + 1, 1, none⟩ = some (.slice a' 0 c') := HI5.out.x.cell 1
              go_wp2_with fail
              refine (HR2.out _ HI5.out.below).mono ?_
              rintro r w6 ⟨rfl, hb6⟩
              clear x0 x1
              have HI6 := hid (HI5.out.later hb6)
              clear hb6
              have g0 : w6.cell? ⟨w.heap.size, 0, none⟩ = some (.int .u64 ea) := HI6.out.g.cell 0
              have g1 : w6.cell? ⟨w.heap.size, 1, none⟩ = some (.slice a la.length c) := HI6.out.g.cell 1
              have x0 : w6.cell? ⟨w.heap.size + 1, 0, none⟩ = some (.int .u64 e3) := HI6.out.x.cell 0
              have x1 : w6.cell? ⟨w.heap.size + 1, 1, none⟩ = some (.slice a' 0 c') := HI6.out.x.cell 1
              have o0 : w6.cell? ⟨w3.heap.size + 1, 0, none⟩ = some (.int .u64 e3) := HI6.out.o.cell 0
              have o1 : w6.cell? ⟨w3.heap.size + 1, 1, none⟩ = some (.slice a9 LB.length c9) := HI6.out.o.cell 1
              have G0 := fun s : Later w6 => s.cell g0
              have G1 := fun s : Later w6 => s.cell g1
              have X0 := fun s : Later w6 => s.cell x0
              have X1 := fun s : Later w6 => s.cell x1
              have O0 := fun s : Later w6 => s.cell o0
              have O1 := fun s : Later w6 => s.cell o1
              clear g0 g1 x0 x1 o0 o1
              go_wp2_with fail
              refine wp_region_later (by kernel_rfl) (by kernel_rfl) ?_
              repeat (go_big_quiet_step (fail))
              refine wpQuiet_nil ?_
              rintro W7 ⟨⟨W7', hb7⟩, rfl⟩
              clear G0 G1 X0 X1 O0 O1
              have HI7 := hid (HI6.out.later hb7)
              clear hb7
              have h0 : W7.cell? ⟨w3.heap.size, 0, none⟩ = some (.int .u64 e3) := HI7.out.h.cell 0
              have h1 : W7.cell? ⟨w3.heap.size, 1, none⟩ = some (.slice a3 L3.length c3) := HI7.out.h.cell 1
              have o0 : W7.cell? ⟨w3.heap.size + 1, 0, none⟩ = some (.int .u64 e3) := HI7.out.o.cell 0
              have o1 : W7.cell? ⟨w3.heap.size + 1, 1, none⟩ = some (.slice a9 LB.length c9) := HI7.out.o.cell 1
              go_wp2_with fail
              have HSM := hid (ref34_same e3 e3 L3 LB a3 a9 _ c3 _ c9 _ (lift HVV.out HI7.out.later4) (lift HBB.out HI7.out.later4))
              rw [show decide ((⟨e3, L3⟩ : Seg) = ⟨e3, LB⟩) = true from decide_eq_true (by rw [← HL3'.out, HLB.out])] at HSM
              refine HSM.out.mono ?_
              rintro r w8 ⟨rfl, hb8⟩
              clear h0 h1 o0 o1
              have HI8 := hid (HI7.out.later hb8)
              clear hb8 HSM
              have h0 : w8.cell? ⟨w3.heap.size, 0, none⟩ = some (.int .u64 e3) := HI8.out.h.cell 0
              have h1 : w8.cell? ⟨w3.heap.size, 1, none⟩ = some (.slice a3 L3.length c3) := HI8.out.h.cell 1
              go_wp2_with fail
              refine (HSR.out _ HI8.out.later4).mono ?_
              rintro r w9 ⟨rfl, hb9⟩
              go_wp2_with fail
              refine (live34 _).mono ?_
              rintro r w10 ⟨rfl, hb10⟩
              have hbe := below_then hb10 (below_then hb9 HI8.out.below)
              go_wp2
              go_ret
              exact ⟨rfl, hbe⟩
            · cases hmy : mayR eb (prevB la la.length) (lb[0]'hz)
              · have hyes : eb < ea ∨ (∃ h : 0 < lb.length, mayR eb (prevB la la.length) (lb[0]'h) = false) := .inr ⟨hz, hmy⟩
                obtain rfl : C = 13 := HC.out.symm.trans (by unfold joinC; rw [if_neg hnot, if_pos hyes])
                obtain rfl : L3 = [] := HL3.out.symm
                obtain rfl : e3 = 0 := HE3.out
                clear hyes
                have d2 : decide ((0 : Int) < (lb.length : Int)) = true := decide_eq_true (by omega)
                have d3 : decide (0 < lb.length) = true := decide_eq_true hz
                have hi1 : 0 < lb.length := hz
                have hi0 : (0 : Int) < (lb.length : Int) := by omega
                obtain ⟨bb, o, hAA, hbb, a0, c0, k0, k1, k2, _, _, _⟩ := batch_at HE.out hz
                simp only [Nat.zero_mul, Nat.add_zero] at k0 k1 k2
                generalize lb[0] = b0 at *
                have hpv := HPV.out
                have hbbw : bb < w.heap.size := hbb
                have HFW := hid (fun (W : World) (h : rBatches.r (· < W.heap.size) W [.slice a9 LB.length c9] LB) => (by have := ref34_may eb LB b0 la.length a9 a0 _ c9 b0.entries.length c0 W h hLA hLBR; rw [hpv, hmy] at this; exact this : Calls Tryz.prog 42 #[.agg #[.int .u64 eb, .slice a9 LB.length c9], .int .i64 la.length, .agg #[.int .u64 b0.epoch, .int .u64 b0.base, .slice a0 b0.entries.length c0]] W fun r w' => r = .returned (.bool false) ∧ Below W.heap.size W w'))
                subst hAA
                clear hpv hbb hz hmy hlt hnot hLBR
                refine (HR1.out _ HIV.out.below).mono ?_
                rintro r w5 ⟨rfl, hb5⟩
                have HI5 := hid (HIV.out.later hb5)
                clear hb5
                have x0 : w5.cell? ⟨w.heap.size + 1, 0, none⟩ = some (.int .u64 eb) := HI5.out.x.cell 0
                have x1 : w5.cell? ⟨w.heap.size + 1, 1, none⟩ = some (.slice (some ⟨bb, o, none⟩) lb.length c') := HI5.out.x.cell 1
                go_wp2_with fail
                refine (HR2.out _ HI5.out.below).mono ?_
                rintro r w6 ⟨rfl, hb6⟩
                clear x0 x1
                have HI6 := hid (HI5.out.later hb6)
                clear hb6
                have g0 : w6.cell? ⟨w.heap.size, 0, none⟩ = some (.int .u64 ea) := HI6.out.g.cell 0
                have g1 : w6.cell? ⟨w.heap.size, 1, none⟩ = some (.slice a la.length c) := HI6.out.g.cell 1
                have x0 : w6.cell? ⟨w.heap.size + 1, 0, none⟩ = some (.int .u64 eb) := HI6.out.x.cell 0
                have x1 : w6.cell? ⟨w.heap.size + 1, 1, none⟩ = some (.slice (some ⟨bb, o, none⟩) lb.length c') := HI6.out.x.cell 1
                have o0 : w6.cell? ⟨w3.heap.size + 1, 0, none⟩ = some (.int .u64 eb) := HI6.out.o.cell 0
                have o1 : w6.cell? ⟨w3.heap.size + 1, 1, none⟩ = some (.slice a9 LB.length c9) := HI6.out.o.cell 1
                have G0 := fun s : Later w6 => s.cell g0
                have G1 := fun s : Later w6 => s.cell g1
                have X0 := fun s : Later w6 => s.cell x0
                have X1 := fun s : Later w6 => s.cell x1
                have O0 := fun s : Later w6 => s.cell o0
                have O1 := fun s : Later w6 => s.cell o1
                clear g0 g1 x0 x1 o0 o1
                go_wp2_with fail
                have K0 := fun s : Later w6 => s.cell ((HI6.out.below.cell (p := ⟨bb, o, none⟩) hbbw).trans k0)
                have K1 := fun s : Later w6 => s.cell ((HI6.out.below.cell (p := ⟨bb, o + 1, none⟩) hbbw).trans k1)
                have K2 := fun s : Later w6 => s.cell ((HI6.out.below.cell (p := ⟨bb, o + 2, none⟩) hbbw).trans k2)
                have HF := hid (fun s : Later w6 => HFW.out s.at_ (lift HBB.out (below_then s.below HI6.out.later4)))
                clear k0 k1 k2
                refine wp_region_later (by kernel_rfl) (by kernel_rfl) ?_
                repeat (go_big_quiet_step ((go_at_call 42; exact later_of (HF.out _))))
                refine wpQuiet_nil ?_
                clear K0 K1 K2
                rintro W7 ⟨⟨W7', hb7⟩, rfl⟩
                clear G0 G1 X0 X1 O0 O1
                have HI7 := hid (HI6.out.later hb7)
                clear hb7
                have h0 : W7.cell? ⟨w3.heap.size, 0, none⟩ = some (.int .u64 0) := HI7.out.h.cell 0
                have h1 : W7.cell? ⟨w3.heap.size, 1, none⟩ = some (.slice a3 0 c3) := HI7.out.h.cell 1
                go_wp2_with fail
                have hsm := ref34_same 0 0 [] [] a3 none 0 c3 0 0 W7 (lift HVV.out (HI7.out.later4)) (rSl_mk (xs := []) rfl (Nat.le_refl _) (Nat.zero_le _) (.inl rfl))
                rw [show decide ((⟨0, []⟩ : Seg) = ⟨0, []⟩) = true from decide_eq_true rfl] at hsm
                refine hsm.mono ?_
                rintro r w8 ⟨rfl, hb8⟩
                clear hsm
                go_wp2_with fail
                refine (live34 _).mono ?_
                rintro r w9 ⟨rfl, hb9⟩
                have hbe := below_then hb9 (below_then hb8 HI7.out.below)
                go_wp2
                go_ret
                exact ⟨rfl, hbe⟩
              · have hno : ¬ (eb < ea ∨ (∃ h : 0 < lb.length, mayR eb (prevB la la.length) (lb[0]'h) = false)) := by
                  rintro (h | ⟨h, h2⟩)
                  · exact hlt h
                  · rw [hmy] at h2; cases h2
                by_cases h16 : 16 < la.length + lb.length
                · have hd16 := HD.out
                  rw [decide_eq_true h16] at hd16
                  have d17 : decide (16 < LB.length) = true := decide_eq_true (by have := HLEN.out; omega)
                  obtain rfl : C = 2 := HC.out.symm.trans (by unfold joinC; rw [if_neg hnot, if_neg hno, if_pos h16])
                  obtain rfl : L3 = [] := HL3.out.symm
                  obtain rfl : e3 = 0 := HE3.out
                  clear hno h16
                  have d2 : decide ((0 : Int) < (lb.length : Int)) = true := decide_eq_true (by omega)
                  have d3 : decide (0 < lb.length) = true := decide_eq_true hz
                  have hi1 : 0 < lb.length := hz
                  have hi0 : (0 : Int) < (lb.length : Int) := by omega
                  obtain ⟨bb, o, hAA, hbb, a0, c0, k0, k1, k2, _, _, _⟩ := batch_at HE.out hz
                  simp only [Nat.zero_mul, Nat.add_zero] at k0 k1 k2
                  generalize lb[0] = b0 at *
                  have hpv := HPV.out
                  have hbbw : bb < w.heap.size := hbb
                  have HFW := hid (fun (W : World) (h : rBatches.r (· < W.heap.size) W [.slice a9 LB.length c9] LB) => (by have := ref34_may eb LB b0 la.length a9 a0 _ c9 b0.entries.length c0 W h hLA hLBR; rw [hpv, hmy] at this; exact this : Calls Tryz.prog 42 #[.agg #[.int .u64 eb, .slice a9 LB.length c9], .int .i64 la.length, .agg #[.int .u64 b0.epoch, .int .u64 b0.base, .slice a0 b0.entries.length c0]] W fun r w' => r = .returned (.bool true) ∧ Below W.heap.size W w'))
                  subst hAA
                  clear hpv hbb hz hmy hlt hnot hLBR
                  refine (HR1.out _ HIV.out.below).mono ?_
                  rintro r w5 ⟨rfl, hb5⟩
                  have HI5 := hid (HIV.out.later hb5)
                  clear hb5
                  have x0 : w5.cell? ⟨w.heap.size + 1, 0, none⟩ = some (.int .u64 eb) := HI5.out.x.cell 0
                  have x1 : w5.cell? ⟨w.heap.size + 1, 1, none⟩ = some (.slice (some ⟨bb, o, none⟩) lb.length c') := HI5.out.x.cell 1
                  go_wp2_with fail
                  refine (HR2.out _ HI5.out.below).mono ?_
                  rintro r w6 ⟨rfl, hb6⟩
                  clear x0 x1
                  have HI6 := hid (HI5.out.later hb6)
                  clear hb6
                  have g0 : w6.cell? ⟨w.heap.size, 0, none⟩ = some (.int .u64 ea) := HI6.out.g.cell 0
                  have g1 : w6.cell? ⟨w.heap.size, 1, none⟩ = some (.slice a la.length c) := HI6.out.g.cell 1
                  have x0 : w6.cell? ⟨w.heap.size + 1, 0, none⟩ = some (.int .u64 eb) := HI6.out.x.cell 0
                  have x1 : w6.cell? ⟨w.heap.size + 1, 1, none⟩ = some (.slice (some ⟨bb, o, none⟩) lb.length c') := HI6.out.x.cell 1
                  have o0 : w6.cell? ⟨w3.heap.size + 1, 0, none⟩ = some (.int .u64 eb) := HI6.out.o.cell 0
                  have o1 : w6.cell? ⟨w3.heap.size + 1, 1, none⟩ = some (.slice a9 LB.length c9) := HI6.out.o.cell 1
                  have G0 := fun s : Later w6 => s.cell g0
                  have G1 := fun s : Later w6 => s.cell g1
                  have X0 := fun s : Later w6 => s.cell x0
                  have X1 := fun s : Later w6 => s.cell x1
                  have O0 := fun s : Later w6 => s.cell o0
                  have O1 := fun s : Later w6 => s.cell o1
                  clear g0 g1 x0 x1 o0 o1
                  go_wp2_with fail
                  have K0 := fun s : Later w6 => s.cell ((HI6.out.below.cell (p := ⟨bb, o, none⟩) hbbw).trans k0)
                  have K1 := fun s : Later w6 => s.cell ((HI6.out.below.cell (p := ⟨bb, o + 1, none⟩) hbbw).trans k1)
                  have K2 := fun s : Later w6 => s.cell ((HI6.out.below.cell (p := ⟨bb, o + 2, none⟩) hbbw).trans k2)
                  have HF := hid (fun s : Later w6 => HFW.out s.at_ (lift HBB.out (below_then s.below HI6.out.later4)))
                  clear k0 k1 k2
                  refine wp_region_later (by kernel_rfl) (by kernel_rfl) ?_
                  repeat (go_big_quiet_step ((go_at_call 42; exact later_of (HF.out _))))
                  refine wpQuiet_nil ?_
                  clear K0 K1 K2
                  rintro W7 ⟨⟨W7', hb7⟩, rfl⟩
                  clear G0 G1 X0 X1 O0 O1
                  have HI7 := hid (HI6.out.later hb7)
                  clear hb7
                  have o0 : W7.cell? ⟨w3.heap.size + 1, 0, none⟩ = some (.int .u64 eb) := HI7.out.o.cell 0
                  have o1 : W7.cell? ⟨w3.heap.size + 1, 1, none⟩ = some (.slice a9 LB.length c9) := HI7.out.o.cell 1
                  have h0 : W7.cell? ⟨w3.heap.size, 0, none⟩ = some (.int .u64 0) := HI7.out.h.cell 0
                  have h1 : W7.cell? ⟨w3.heap.size, 1, none⟩ = some (.slice a3 0 c3) := HI7.out.h.cell 1
                  go_wp2_with fail
                  have hsm := ref34_same 0 0 [] [] a3 none 0 c3 0 0 W7 (lift HVV.out (HI7.out.later4)) (rSl_mk (xs := []) rfl (Nat.le_refl _) (Nat.zero_le _) (.inl rfl))
                  rw [show decide ((⟨0, []⟩ : Seg) = ⟨0, []⟩) = true from decide_eq_true rfl] at hsm
                  refine hsm.mono ?_
                  rintro r w8 ⟨rfl, hb8⟩
                  clear hsm
                  go_wp2_with fail
                  refine (live34 _).mono ?_
                  rintro r w9 ⟨rfl, hb9⟩
                  have hbe := below_then hb9 (below_then hb8 HI7.out.below)
                  go_wp2
                  go_ret
                  exact ⟨rfl, hbe⟩
                · have hSR := segR_join HS1.out HS2.out hlt (fun h => hmy) h16
                  have hd16 := HD.out
                  rw [decide_eq_false h16] at hd16
                  have d17 : decide (16 < LB.length) = false := decide_eq_false (by have := HLEN.out; omega)
                  have hC0 : joinC ea la eb lb = 0 := by unfold joinC; rw [if_neg hnot, if_neg hno, if_neg h16]
                  clear hno h16
                  have d2 : decide ((0 : Int) < (lb.length : Int)) = true := decide_eq_true (by omega)
                  have d3 : decide (0 < lb.length) = true := decide_eq_true hz
                  have hi1 : 0 < lb.length := hz
                  have hi0 : (0 : Int) < (lb.length : Int) := by omega
                  obtain ⟨bb, o, hAA, hbb, a0, c0, k0, k1, k2, _, _, _⟩ := batch_at HE.out hz
                  simp only [Nat.zero_mul, Nat.add_zero] at k0 k1 k2
                  generalize lb[0] = b0 at *
                  have hpv := HPV.out
                  have hbbw : bb < w.heap.size := hbb
                  have HFW := hid (fun (W : World) (h : rBatches.r (· < W.heap.size) W [.slice a9 LB.length c9] LB) => (by have := ref34_may eb LB b0 la.length a9 a0 _ c9 b0.entries.length c0 W h hLA hLBR; rw [hpv, hmy] at this; exact this : Calls Tryz.prog 42 #[.agg #[.int .u64 eb, .slice a9 LB.length c9], .int .i64 la.length, .agg #[.int .u64 b0.epoch, .int .u64 b0.base, .slice a0 b0.entries.length c0]] W fun r w' => r = .returned (.bool true) ∧ Below W.heap.size W w'))
                  subst hAA
                  clear hpv hbb hz hmy hlt hnot hLBR
                  obtain rfl : C = 0 := HC.out.symm.trans hC0
                  have hL3 : la ++ lb = L3 := HL3.out
                  obtain rfl : e3 = eb := HE3.out
                  have hF3 : ∀ x ∈ L3, Fair x.entries := by
                    rw [← hL3]; intro x hx
                    rcases List.mem_append.1 hx with hx | hx
                    · exact HFA.out x hx
                    · exact HFBB.out x hx
                  have HSR := hid (fun (W : World) (hW : Below V.heap.size V W) => ref34_right e3 L3 a3 _ c3 W h0b (lift HVV.out hW) hF3)
                  rw [← hL3] at HSR
                  rw [hSR] at HSR
                  rw [hL3] at HSR
                  have HL3' := hid hL3
                  clear hF3 hL3 hSR
                  clear hC0
                  refine (HR1.out _ HIV.out.below).mono ?_
                  rintro r w5 ⟨rfl, hb5⟩
                  have HI5 := hid (HIV.out.later hb5)
                  clear hb5
                  have x0 : w5.cell? ⟨w.heap.size + 1, 0, none⟩ = some (.int .u64 e3) := HI5.out.x.cell 0
                  have x1 : w5.cell? ⟨w.heap.size + 1, 1, none⟩ = some (.slice (some ⟨bb, o, none⟩) lb.length c') := HI5.out.x.cell 1
                  go_wp2_with fail
                  refine (HR2.out _ HI5.out.below).mono ?_
                  rintro r w6 ⟨rfl, hb6⟩
                  clear x0 x1
                  have HI6 := hid (HI5.out.later hb6)
                  clear hb6
                  have g0 : w6.cell? ⟨w.heap.size, 0, none⟩ = some (.int .u64 ea) := HI6.out.g.cell 0
                  have g1 : w6.cell? ⟨w.heap.size, 1, none⟩ = some (.slice a la.length c) := HI6.out.g.cell 1
                  have x0 : w6.cell? ⟨w.heap.size + 1, 0, none⟩ = some (.int .u64 e3) := HI6.out.x.cell 0
                  have x1 : w6.cell? ⟨w.heap.size + 1, 1, none⟩ = some (.slice (some ⟨bb, o, none⟩) lb.length c') := HI6.out.x.cell 1
                  have o0 : w6.cell? ⟨w3.heap.size + 1, 0, none⟩ = some (.int .u64 e3) := HI6.out.o.cell 0
                  have o1 : w6.cell? ⟨w3.heap.size + 1, 1, none⟩ = some (.slice a9 LB.length c9) := HI6.out.o.cell 1
                  have G0 := fun s : Later w6 => s.cell g0
                  have G1 := fun s : Later w6 => s.cell g1
                  have X0 := fun s : Later w6 => s.cell x0
                  have X1 := fun s : Later w6 => s.cell x1
                  have O0 := fun s : Later w6 => s.cell o0
                  have O1 := fun s : Later w6 => s.cell o1
                  clear g0 g1 x0 x1 o0 o1
                  go_wp2_with fail
                  have K0 := fun s : Later w6 => s.cell ((HI6.out.below.cell (p := ⟨bb, o, none⟩) hbbw).trans k0)
                  have K1 := fun s : Later w6 => s.cell ((HI6.out.below.cell (p := ⟨bb, o + 1, none⟩) hbbw).trans k1)
                  have K2 := fun s : Later w6 => s.cell ((HI6.out.below.cell (p := ⟨bb, o + 2, none⟩) hbbw).trans k2)
                  have HF := hid (fun s : Later w6 => HFW.out s.at_ (lift HBB.out (below_then s.below HI6.out.later4)))
                  clear k0 k1 k2
                  refine wp_region_later (by kernel_rfl) (by kernel_rfl) ?_
                  repeat (go_big_quiet_step ((go_at_call 42; exact later_of (HF.out _))))
                  refine wpQuiet_nil ?_
                  clear K0 K1 K2
                  rintro W7 ⟨⟨W7', hb7⟩, rfl⟩
                  clear G0 G1 X0 X1 O0 O1
                  have HI7 := hid (HI6.out.later hb7)
                  clear hb7
                  have h0 : W7.cell? ⟨w3.heap.size, 0, none⟩ = some (.int .u64 e3) := HI7.out.h.cell 0
                  have h1 : W7.cell? ⟨w3.heap.size, 1, none⟩ = some (.slice a3 L3.length c3) := HI7.out.h.cell 1
                  have o0 : W7.cell? ⟨w3.heap.size + 1, 0, none⟩ = some (.int .u64 e3) := HI7.out.o.cell 0
                  have o1 : W7.cell? ⟨w3.heap.size + 1, 1, none⟩ = some (.slice a9 LB.length c9) := HI7.out.o.cell 1
                  go_wp2_with fail
                  have HSM := hid (ref34_same e3 e3 L3 LB a3 a9 _ c3 _ c9 _ (lift HVV.out HI7.out.later4) (lift HBB.out HI7.out.later4))
                  rw [show decide ((⟨e3, L3⟩ : Seg) = ⟨e3, LB⟩) = true from decide_eq_true (by rw [← HL3'.out, HLB.out])] at HSM
                  refine HSM.out.mono ?_
                  rintro r w8 ⟨rfl, hb8⟩
                  clear h0 h1 o0 o1
                  have HI8 := hid (HI7.out.later hb8)
                  clear hb8 HSM
                  have h0 : w8.cell? ⟨w3.heap.size, 0, none⟩ = some (.int .u64 e3) := HI8.out.h.cell 0
                  have h1 : w8.cell? ⟨w3.heap.size, 1, none⟩ = some (.slice a3 L3.length c3) := HI8.out.h.cell 1
                  go_wp2_with fail
                  refine (HSR.out _ HI8.out.later4).mono ?_
                  rintro r w9 ⟨rfl, hb9⟩
                  go_wp2_with fail
                  refine (live34 _).mono ?_
                  rintro r w10 ⟨rfl, hb10⟩
                  have hbe := below_then hb10 (below_then hb9 HI8.out.below)
                  go_wp2
                  go_ret
                  exact ⟨rfl, hbe⟩
    · rw [hl2] at H2
      clear hl1 hl2
      go_enter Tryz.func8, Tryz.ntmps8
      go_wp2_with fail
      refine (H1.out _ HI0.out.below).mono ?_
      rintro r w1 ⟨rfl, hb1⟩
      have HI1 := hid (HI0.out.later hb1)
      clear hb1
      have x0 : w1.cell? ⟨w.heap.size + 1, 0, none⟩ = some (.int .u64 eb) := HI1.out.x.cell 0
      have x1 : w1.cell? ⟨w.heap.size + 1, 1, none⟩ = some (.slice a' lb.length c') := HI1.out.x.cell 1
      go_wp2_with fail
      refine (H2.out _ HI1.out.below).mono ?_
      rintro r w2 ⟨rfl, hb2⟩
      have hbw2 := below_then hb2 HI1.out.below
      go_wp2_with fail
      refine (live34 _).mono ?_
      rintro r w9 ⟨rfl, hb9⟩
      have hbe := below_then hb9 hbw2
      go_wp2
      go_ret
      exact ⟨rfl, hbe⟩
  · rw [hl1] at H1
    clear hl1
    go_enter Tryz.func8, Tryz.ntmps8
    go_wp2_with fail
    refine (H1.out _ HI0.out.below).mono ?_
    rintro r w1 ⟨rfl, hb1⟩
    have hbw1 := below_then hb1 HI0.out.below
    go_wp2_with fail
    refine (live34 _).mono ?_
    rintro r w9 ⟨rfl, hb9⟩
    have hbe := below_then hb9 hbw1
    go_wp2
    go_ret
    exact ⟨rfl, hbe⟩
end Go.Proofs.YtkipiefcnjfdjaaGreat
namespace Go.Proofs.YtkipiefcnjfdjaaGreat
open Go.RowKit Go.Bs
set_option maxRecDepth 100000 in
theorem segmentJoins_walk {H : Type} (enc : TypeId × Value → H) (W : World) (base : Nat) (v0 v1 : Value) (d0 d1 : DataW H) (p0 p1 : List MemPlace)
    (k0 : DataW.Trod enc Tryz.prog W 0 (fun _ => true) true 62 v0 d0 p0) (k1 : DataW.Trod enc Tryz.prog W 0 (fun _ => true) true 62 v1 d1 p1)
    (o0 : Value.okWide Tryz.prog W .any base 62 v0) (o1 : Value.okWide Tryz.prog W .any base 62 v1) :
    Calls Tryz.prog 8 #[v0, v1] W fun e w' => e = .returned (.bool true) ∧ Below W.heap.size W w' := by
  obtain ⟨ea, la, a, n, c, rfl, h0, hl⟩ := seg_arg enc W base v0 d0 p0 k0 o0
  obtain ⟨eb, lb, a', n', c', rfl, h1, hl'⟩ := seg_arg enc W base v1 d1 p1 k1 o1
  exact segmentJoins_c ea eb la lb a n c a' n' c' W h0 hl h1 hl'
end Go.Proofs.YtkipiefcnjfdjaaGreat
