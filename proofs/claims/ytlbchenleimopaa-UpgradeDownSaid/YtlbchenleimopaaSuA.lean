/- The entry of a segment at a position, by the program. -/
import Derived.Test.YtlbchenleimopaaStZ
namespace Go.Proofs.Ytlbchenleimopaa
open Go.RowKit Go.Bs
set_option linter.unusedVariables false
set_option linter.unusedSimpArgs false

def findS (l : List Batch) (pos : Int) : Option Entry := l.findSome? fun b => findB b pos
theorem findS_step (l : List Batch) (pos : Int) (k : Nat) (h : k < l.length) : findS (l.drop k) pos = (findB l[k] pos).or (findS (l.drop (k + 1)) pos) := by
  unfold findS
  rw [List.drop_eq_getElem_cons h, List.findSome?_cons]
  cases findB l[k] pos <;> rfl

theorem batchR_facts {b : Batch} (h : batchR b = true) : 1 ≤ b.epoch ∧ b.epoch < 4611686018427387904 ∧ 1 ≤ b.entries.length ∧ b.entries.length ≤ 16 ∧ b.base + b.entries.length ≤ 4611686018427387904 ∧ total b.entries ≤ 1048576 := by
  simp only [batchR, epR, fitsR, Bool.and_eq_true, decide_eq_true_eq] at h
  exact ⟨h.1.1, h.1.2, h.2.1.1, h.2.1.2.1, h.2.1.2.2.2, h.2.2.1⟩
theorem chainR_mem {e : Int} : ∀ {p : Option Batch} {l : List Batch}, chainR e p l = true → ∀ b ∈ l, batchR b = true
  | _, [], _, b, hb => by cases hb
  | p, x :: l, h, b, hb => by
    simp only [chainR, Bool.and_eq_true] at h
    rcases List.mem_cons.1 hb with rfl | hb
    · exact h.1
    · exact chainR_mem h.2.2 b hb
theorem segR_facts {g : Seg} (h : segR g = true) : (1 ≤ g.epoch ∧ g.epoch < 4611686018427387904) ∧ g.batches.length ≤ 16 ∧ ∀ b ∈ g.batches, batchR b = true := by
  simp only [segR, epR, Bool.and_eq_true, decide_eq_true_eq] at h
  exact ⟨h.1, h.2.1, chainR_mem h.2.2⟩

set_option maxRecDepth 100000 in
set_option maxHeartbeats 1600000 in
theorem segment_entry (e : Int) (l : List Batch) (pos : Int) (a : Option Addr) (n c : Nat) (w : World) (h0 : 0 ≤ e ∧ e ≤ 18446744073709551615) (hl : rBatches.r (· < w.heap.size) w [.slice a n c] l) (hfair : ∀ x ∈ l, Fair x.entries) (hm : ∀ x ∈ l, ∀ z ∈ x.entries, Mild z) (hp : 0 ≤ pos ∧ pos ≤ 18446744073709551615) :
    Calls Try.prog 14 #[.agg #[.int .u64 e, .slice a n c], .int .u64 pos] w (EntRet (if segR ⟨e, l⟩ then findS l pos else none) w) := by
  obtain ⟨rfl, hm1, _, _⟩ := sl_len hl
  have HR := hid (fun (W : World) (hW : Below w.heap.size w W) => segment_right e l a _ c W h0 (lift hl hW) hfair)
  have HL := hid hl; clear hl
  have HM := hid hm; clear hm hfair
  cases hs : segR ⟨e, l⟩
  · rw [hs] at HR
    rw [if_neg (by simp)]
    clear hs
    go_enter Try.func14, Try.ntmps14
    go_wp2_with fail
    refine (HR.out _ (by (repeat (first | exact Below.refl _ _ | assumption | (refine below_alloc ?_ _) | (refine Below.setCell ?_ (by first | omega | (simp; done) | (simp; omega)) _) | (refine Below.drew ?_) | (refine below_drewN ?_ _) | (refine below_then (by assumption) ?_))))).mono ?_
    rintro e' w1 ⟨rfl, hb1⟩
    have hz : w.heap.size + 1 < w1.heap.size := by have := hb1.size; simp at this; omega
    have R3 : Blk w1 (w.heap.size + 1) 41 #[.slice none 0 0, .slice none 0 0] := Blk.later (by (repeat (first | assumption | exact Blk.newAt _ _ _ (by first | (simp; done) | (simp; omega)) | refine Blk.alloc ?_ _ | refine Blk.drew ?_ | refine Blk.drewN ?_ _ | refine Blk.far ?_ (by first | (simp; done) | (simp; omega)) _))) hb1
    have c0 : w1.cell? ⟨w.heap.size + 1, 0, none⟩ = some (.slice none 0 0) := R3.cell 0
    have c1' : w1.cell? ⟨w.heap.size + 1, 1, none⟩ = some (.slice none 0 0) := R3.cell 1
    have f0 := R3.free 0
    have f1 := R3.free 1
    clear R3
    have hbf : Below w.heap.size w w1 := by (repeat (first | exact Below.refl _ _ | assumption | (refine below_alloc ?_ _) | (refine Below.setCell ?_ (by first | omega | (simp; done) | (simp; omega)) _) | (refine Below.drew ?_) | (refine below_drewN ?_ _) | (refine below_then (by assumption) ?_)))
    go_wp2
    refine bodyPost_ret (v := .tuple #[.agg #[.slice none 0 0, .slice none 0 0], .bool false]) (by simp [results, Try.results14, go_sem, c0, c1']) rfl ?_
    exact ⟨rfl, by (repeat (first | exact Below.refl _ _ | assumption | (refine below_alloc ?_ _) | (refine Below.setCell ?_ (by first | omega | (simp; done) | (simp; omega)) _) | (refine Below.drew ?_) | (refine below_drewN ?_ _) | (refine below_then (by assumption) ?_)))⟩
  · rw [hs] at HR
    rw [if_pos rfl]
    obtain ⟨_, g1, g2⟩ := segR_facts hs
    have G2 := hid g2
    clear hs g2
    go_enter Try.func14, Try.ntmps14
    go_wp2_with fail
    refine (HR.out _ (by (repeat (first | exact Below.refl _ _ | assumption | (refine below_alloc ?_ _) | (refine Below.setCell ?_ (by first | omega | (simp; done) | (simp; omega)) _) | (refine Below.drew ?_) | (refine below_drewN ?_ _) | (refine below_then (by assumption) ?_))))).mono ?_
    rintro e' w1 ⟨rfl, hb1⟩
    have hz : w.heap.size + 1 < w1.heap.size := by have := hb1.size; simp at this; omega
    have hz0 : w.heap.size < w1.heap.size := by omega
    have q1 : w1.cell? ⟨w.heap.size, 1, none⟩ = some (.slice a l.length c) := (Later.mk w1 hb1).cell (by go_simp)
    have r0 : Blk w1 (w.heap.size + 1) 41 #[.slice none 0 0, .slice none 0 0] := Blk.later (by (repeat (first | assumption | exact Blk.newAt _ _ _ (by first | (simp; done) | (simp; omega)) | refine Blk.alloc ?_ _ | refine Blk.drew ?_ | refine Blk.drewN ?_ _ | refine Blk.far ?_ (by first | (simp; done) | (simp; omega)) _))) hb1
    have RB := hid r0; clear r0
    have hbw : Below w.heap.size w w1 := by (repeat (first | exact Below.refl _ _ | assumption | (refine below_alloc ?_ _) | (refine Below.setCell ?_ (by first | omega | (simp; done) | (simp; omega)) _) | (refine Below.drew ?_) | (refine below_drewN ?_ _) | (refine below_then (by assumption) ?_)))
    go_wp2_with fail
    go_loopw [17] (fun i wr => ∃ k : Nat, k ≤ l.length ∧ i = .int .i64 k ∧ Hid (findS l pos = findS (l.drop k) pos) ∧ Below w1.heap.size w1 wr) (fun i _ => l.length - (intOf i).toNat)
    case atStart => exact ⟨0, Nat.zero_le _, rfl, hid rfl, Below.refl _ _⟩
    case round =>
      obtain ⟨k, hk, rfl, hf, hb⟩ := hrel
      have hb3 := below_then hb hbw
      have hz3 : w.heap.size + 1 < wr.heap.size := by have := hb.size; omega
      have hz4 : w.heap.size < wr.heap.size := by omega
      have RW := hid (RB.out.later hb)
      by_cases hlt : k < l.length
      · obtain ⟨b, o, hA, hbb, a1, c1, X0, X1, X2, b0, b1, hd⟩ := batch_at (lift HL.out hb3) hlt
        subst hA
        have hst := hid (findS_step l pos k hlt)
        have hmem : l[k] ∈ l := List.getElem_mem hlt
        obtain ⟨_, _, _, _, f5, _⟩ := batchR_facts (G2.out _ hmem)
        have HMk := hid (HM.out _ hmem)
        have HD := hid hd; clear hd hmem
        generalize l[k] = z at *
        go_wp2_with fail
        refine (peek_at z pos _ _ _ _ b1.1 f5 hp (lift HD.out (by (repeat (first | exact Below.refl _ _ | assumption | (refine below_alloc ?_ _) | (refine Below.setCell ?_ (by first | omega | (simp; done) | (simp; omega)) _) | (refine Below.drew ?_) | (refine below_drewN ?_ _) | (refine below_then (by assumption) ?_))))) HMk.out).mono ?_
        rintro r w4 hr
        cases hfb : findB z pos with
        | none =>
          rw [hfb] at hr
          obtain ⟨rfl, hb4⟩ := hr
          have hff : Hid (findS l pos = findS (l.drop (k + 1)) pos) := hid (by rw [hf.out, hst.out, hfb]; rfl)
          clear hfb
          have hb5 : Below w1.heap.size w1 w4 := below_then (show Below wr.heap.size wr w4 by (repeat (first | exact Below.refl _ _ | assumption | (refine below_alloc ?_ _) | (refine Below.setCell ?_ (by first | omega | (simp; done) | (simp; omega)) _) | (refine Below.drew ?_) | (refine below_drewN ?_ _) | (refine below_then (by assumption) ?_)))) hb
          go_wp2
          go_roundw
          case rel => exact ⟨k + 1, by omega, by go_num, hff, by first | exact hb5 | exact below_alloc hb5 _⟩
          case measure => simp [intOf]; omega
        | some en =>
          rw [hfb] at hr
          obtain ⟨v1, v2, rfl, hr1, hr2, hb4⟩ := hr
          have hff : Hid (findS l pos = some en) := hid (by rw [hf.out, hst.out, hfb]; rfl)
          clear hfb
          obtain ⟨a3, c3, hv3, _, _⟩ := sl_form hr1
          simp only [List.cons.injEq, and_true] at hv3
          subst hv3
          obtain ⟨a4, c4, hv4, _, _⟩ := sl_form hr2
          simp only [List.cons.injEq, and_true] at hv4
          subst hv4
          have HR1 := hid hr1; have HR2 := hid hr2; clear hr1 hr2
          have hb5 : Below wr.heap.size wr w4 := by (repeat (first | exact Below.refl _ _ | assumption | (refine below_alloc ?_ _) | (refine Below.setCell ?_ (by first | omega | (simp; done) | (simp; omega)) _) | (refine Below.drew ?_) | (refine below_drewN ?_ _) | (refine below_then (by assumption) ?_)))
          have R3 := RW.out.later hb5
          have c0 : w4.cell? ⟨w.heap.size + 1, 0, none⟩ = some (.slice none 0 0) := R3.cell 0
          have c1' : w4.cell? ⟨w.heap.size + 1, 1, none⟩ = some (.slice none 0 0) := R3.cell 1
          have f0 := R3.free 0
          have f1 := R3.free 1
          clear R3
          have hs4 := hb5.size
          have hzz : w.heap.size + 1 < w4.heap.size := by omega
          have hbf : Below w.heap.size w w4 := below_then hb5 hb3
          go_wp2
          refine bodyPost_ret (v := .tuple #[.agg #[.slice a3 en.links.length c3, .slice a4 en.data.length c4], .bool true]) (by simp [results, Try.results14, go_sem, c0, c1', World.cell?_alloc_some, World.cell?_setCell_far, hzz]) rfl ?_
          rw [hff.out]
          refine ⟨_, _, rfl, ?_, ?_, by (repeat (first | exact Below.refl _ _ | assumption | (refine below_alloc ?_ _) | (refine Below.setCell ?_ (by first | omega | (simp; done) | (simp; omega)) _) | (refine Below.drew ?_) | (refine below_drewN ?_ _) | (refine below_then (by assumption) ?_)))⟩
          · refine rLinks.mono (rLinks.keep HR1.out fun b hb => ?_) fun b hb => ?_
            · have hb' := hb.1
              have hb'' := hb.2
              simp at hb'
              repeat (first | rw [Below.heap_setCell _ _ _ _ (by dsimp only; omega)] | rw [Below.heap_alloc _ _ _ (by simp; omega)])
            · have hb' := hb.1
              have hb'' := hb.2
              simp at hb'
              exact ⟨by omega, by simp; omega⟩
          · refine rBytes.mono (rBytes.keep HR2.out fun b hb => ?_) fun b hb => ?_
            · have hb' := hb.1
              have hb'' := hb.2
              simp at hb'
              repeat (first | rw [Below.heap_setCell _ _ _ _ (by dsimp only; omega)] | rw [Below.heap_alloc _ _ _ (by simp; omega)])
            · have hb' := hb.1
              have hb'' := hb.2
              simp at hb'
              exact ⟨by omega, by simp; omega⟩
      · obtain rfl : k = l.length := by omega
        have hff : Hid (findS l pos = none) := hid (by rw [hf.out, List.drop_length]; rfl)
        have R3 := RW.out
        have c0 : wr.cell? ⟨w.heap.size + 1, 0, none⟩ = some (.slice none 0 0) := R3.cell 0
        have c1' : wr.cell? ⟨w.heap.size + 1, 1, none⟩ = some (.slice none 0 0) := R3.cell 1
        have f0 := R3.free 0
        have f1 := R3.free 1
        clear R3
        go_wp2
        refine bodyPost_ret (v := .tuple #[.agg #[.slice none 0 0, .slice none 0 0], .bool false]) (by simp [results, Try.results14, go_sem, c0, c1']) rfl ?_
        rw [hff.out]
        exact ⟨rfl, by (repeat (first | exact Below.refl _ _ | assumption | (refine below_alloc ?_ _) | (refine Below.setCell ?_ (by first | omega | (simp; done) | (simp; omega)) _) | (refine Below.drew ?_) | (refine below_drewN ?_ _) | (refine below_then (by assumption) ?_)))⟩
end Go.Proofs.Ytlbchenleimopaa
