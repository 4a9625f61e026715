/- The entry at a position, by the program. -/
import Derived.Test.YtlbchenleimopaaStY
namespace Go.Proofs.Ytlbchenleimopaa
open Go.RowKit Go.Bs
set_option linter.unusedVariables false
set_option linter.unusedSimpArgs false

set_option maxHeartbeats 800000 in
theorem peek_numbered (e b : Int) (a : Option Addr) (n c : Nat) (w : World) (h0 : 0 ≤ b) (h : b + n ≤ 18446744073709551615) (hn : n ≤ 9223372036854775807) :
    Calls Try.prog 55 #[.agg #[.int .u64 e, .int .u64 b, .slice a n c]] w fun r w' => r = .returned (.bool true) ∧ Below w.heap.size w w' := by
  have d1 : decide (b ≤ b + (n : Int)) = true := by simp; omega
  have F : Below w.heap.size w (w.alloc (.cells #[.int .u64 e, .int .u64 b, .slice a n c] 58)) := by (repeat (first | exact Below.refl _ _ | assumption | (refine below_alloc ?_ _) | (refine Below.setCell ?_ (by first | omega | (simp; done) | (simp; omega)) _) | (refine Below.drew ?_) | (refine below_drewN ?_ _) | (refine below_then (by assumption) ?_)))
  have Y0 := fun s : Later (w.alloc (.cells #[.int .u64 e, .int .u64 b, .slice a n c] 58)) => s.cell (v := .int .u64 e) (b := w.heap.size) (o := 0) (by go_simp)
  have Y1 := fun s : Later (w.alloc (.cells #[.int .u64 e, .int .u64 b, .slice a n c] 58)) => s.cell (v := .int .u64 b) (b := w.heap.size) (o := 1) (by go_simp)
  have Y2 := fun s : Later (w.alloc (.cells #[.int .u64 e, .int .u64 b, .slice a n c] 58)) => s.cell (v := .slice a n c) (b := w.heap.size) (o := 2) (by go_simp)
  have FF := hid F; clear F
  have hE := fun s : Later (w.alloc (.cells #[.int .u64 e, .int .u64 b, .slice a n c] 58)) => batch_end e b a n c s.at_ h0 h hn
  have HE := hid hE; clear hE
  go_enter Try.func55, Try.ntmps55
  go_wp2_with fail
  refine wp_region_later (by kernel_rfl) (by kernel_rfl) ?_
  repeat (go_big_quiet_step (((go_at_call 54; exact later_of (HE.out _)))))
  refine wpQuiet_nil ?_
  rintro W5 ⟨⟨W5', hb5⟩, rfl⟩
  go_wp2
  go_ret
  have FO := FF.out
  exact ⟨rfl, by (repeat (first | exact Below.refl _ _ | assumption | (refine below_alloc ?_ _) | (refine Below.setCell ?_ (by first | omega | (simp; done) | (simp; omega)) _) | (refine Below.drew ?_) | (refine below_drewN ?_ _) | (refine below_then (by assumption) ?_)))⟩

/-- The entry of a batch at a position. -/
def findB (b : Batch) (pos : Int) : Option Entry := if b.base ≤ pos then b.entries[(pos - b.base).toNat]? else none
/-- What At and its like hand back. -/
def EntRet (x : Option Entry) (w : World) (r : Ending) (w' : World) : Prop :=
  match x with
  | none => r = .returned (.tuple #[.agg #[.slice none 0 0, .slice none 0 0], .bool false]) ∧ Below w.heap.size w w'
  | some e => ∃ v1 v2, r = .returned (.tuple #[.agg #[v1, v2], .bool true]) ∧ rLinks.r (Fresh w w') w' [v1] e.links ∧ rBytes.r (Fresh w w') w' [v2] e.data ∧ Below w.heap.size w w'

set_option maxRecDepth 100000 in
set_option maxHeartbeats 1600000 in
theorem peek_at (x : Batch) (pos : Int) (a : Option Addr) (n c : Nat) (w : World) (h0 : 0 ≤ x.base) (h : x.base + x.entries.length ≤ 4611686018427387904) (hp : 0 ≤ pos ∧ pos ≤ 18446744073709551615) (hl : rEntries.r (· < w.heap.size) w [.slice a n c] x.entries) (hm : ∀ z ∈ x.entries, Mild z) :
    Calls Try.prog 35 #[.agg #[.int .u64 x.epoch, .int .u64 x.base, .slice a n c], .int .u64 pos] w (EntRet (findB x pos) w) := by
  obtain ⟨rfl, hm1, _, _⟩ := sl_len hl
  obtain ⟨ep, bs, l⟩ := x
  dsimp only at *
  have HL := hid hl; clear hl
  have HM := hid hm; clear hm
  have hN := fun W => peek_numbered ep bs a l.length c W h0 (by omega) hm1
  have HN := hid hN; clear hN
  have hE := fun W => batch_end ep bs a l.length c W h0 (by omega) hm1
  have HE := hid hE; clear hE
  by_cases h1 : bs ≤ pos
  · have d1 : decide (pos < bs) = false := by simp; omega
    by_cases h2 : pos < bs + l.length
    · have d2 : decide (bs + (l.length : Int) ≤ pos) = false := by simp; omega
      obtain ⟨k, hk⟩ : ∃ k : Nat, pos - bs = k := ⟨(pos - bs).toNat, by omega⟩
      have hkl : k < l.length := by omega
      have hpos : pos = bs + k := by omega
      have HF : Hid (findB ⟨ep, bs, l⟩ pos = some l[k]) := hid (by simp only [findB, if_pos h1]; rw [hk]; simp [hkl])
      have HMk := HM.out _ (List.getElem_mem hkl)
      obtain ⟨m1, m2, m3⟩ := HMk
      obtain ⟨b, o, hA, hbb, a1, c1, a2, c2, xx0, xx1, hd1, hd2⟩ := entry_at HL.out hkl
      subst hA
      have HD1 := hid hd1; have HD2 := hid hd2; clear hd1 hd2
      generalize l[k] = z at *
      have M3 := hid m3; clear m3
      subst hpos
      have e1 : bs + (k : Int) - bs = k := by omega
      clear hk
      go_enter Try.func35, Try.ntmps35
      go_wp2_with fail
      refine (HN.out _).mono ?_
      rintro e' w1 ⟨rfl, hb1⟩
      have hz : w.heap.size + 1 < w1.heap.size := by have := hb1.size; simp at this; omega
      have hz0 : w.heap.size < w1.heap.size := by omega
      have p0 : w1.cell? ⟨w.heap.size, 0, none⟩ = some (.int .u64 ep) := (Later.mk w1 hb1).cell (by go_simp)
      have p1 : w1.cell? ⟨w.heap.size, 1, none⟩ = some (.int .u64 bs) := (Later.mk w1 hb1).cell (by go_simp)
      have p2 : w1.cell? ⟨w.heap.size, 2, none⟩ = some (.slice (some ⟨b, o, none⟩) l.length c) := (Later.mk w1 hb1).cell (by go_simp)
      have r0 : Blk w1 (w.heap.size + 1) 41 #[.slice none 0 0, .slice none 0 0] := Blk.later (by (repeat (first | assumption | exact Blk.newAt _ _ _ (by first | (simp; done) | (simp; omega)) | refine Blk.alloc ?_ _ | refine Blk.drew ?_ | refine Blk.drewN ?_ _ | refine Blk.far ?_ (by first | (simp; done) | (simp; omega)) _))) hb1
      have RB := hid r0; clear r0
      have hbw : Below w.heap.size w w1 := by (repeat (first | exact Below.refl _ _ | assumption | (refine below_alloc ?_ _) | (refine Below.setCell ?_ (by first | omega | (simp; done) | (simp; omega)) _) | (refine Below.drew ?_) | (refine below_drewN ?_ _) | (refine below_then (by assumption) ?_)))
      go_wp2_with fail
      refine (HE.out _).mono ?_
      rintro e' w2 ⟨rfl, hb2⟩
      have s1 : w2.cell? ⟨w.heap.size, 1, none⟩ = some (.int .u64 bs) := (Later.mk w2 hb2).cell p1
      have s2 : w2.cell? ⟨w.heap.size, 2, none⟩ = some (.slice (some ⟨b, o, none⟩) l.length c) := (Later.mk w2 hb2).cell p2
      have hbw2 : Below w.heap.size w w2 := below_then hb2 hbw
      have X0 := (hbw2.cell (p := ⟨b, o + k * 2, none⟩) hbb).trans xx0
      have X1 := (hbw2.cell (p := ⟨b, o + k * 2 + 1, none⟩) hbb).trans xx1
      have hz2 : w.heap.size < w2.heap.size := by have := hb2.size; omega
      go_wp2_with fail
      refine (entry_copy z _ _ _ _ _ _ _ (lift HD1.out hbw2) (lift HD2.out hbw2) m1 m2 M3.out).mono ?_
      rintro r w3 ⟨v1, v2, rfl, hr1, hr2, hb3⟩
      obtain ⟨a3, c3, hv3, _, _⟩ := sl_form hr1
      simp only [List.cons.injEq, and_true] at hv3
      subst hv3
      obtain ⟨a4, c4, hv4, _, _⟩ := sl_form hr2
      simp only [List.cons.injEq, and_true] at hv4
      subst hv4
      have HR1 := hid hr1; have HR2 := hid hr2; clear hr1 hr2
      have R3 := RB.out.later (below_then hb3 hb2)
      have c0 : w3.cell? ⟨w.heap.size + 1, 0, none⟩ = some (.slice none 0 0) := R3.cell 0
      have c1' : w3.cell? ⟨w.heap.size + 1, 1, none⟩ = some (.slice none 0 0) := R3.cell 1
      have f0 := R3.free 0
      have f1 := R3.free 1
      clear R3
      have hzz : w.heap.size + 1 < w3.heap.size := by have := hb3.size; have := hb2.size; omega
      have hbf : Below w.heap.size w w3 := below_then hb3 hbw2
      go_wp2
      refine bodyPost_ret (v := .tuple #[.agg #[.slice a3 z.links.length c3, .slice a4 z.data.length c4], .bool true]) (by simp [results, Try.results35, go_sem, c0, c1']) rfl ?_
      unfold EntRet
      rw [HF.out]
      have hs2 := hb2.size
      refine ⟨_, _, rfl, ?_, ?_, by (repeat (first | exact Below.refl _ _ | assumption | (refine below_alloc ?_ _) | (refine Below.setCell ?_ (by first | omega | (simp; done) | (simp; omega)) _) | (refine Below.drew ?_) | (refine below_drewN ?_ _) | (refine below_then (by assumption) ?_)))⟩
      · refine rLinks.mono (rLinks.keep HR1.out fun b hb => ?_) fun b hb => ⟨by have := hb.1; omega, by have := hb.2; simp; omega⟩
        have hb' := hb.1
        repeat rw [Below.heap_setCell _ _ _ _ (by dsimp only; omega)]
      · refine rBytes.mono (rBytes.keep HR2.out fun b hb => ?_) fun b hb => ⟨by have := hb.1; omega, by have := hb.2; simp; omega⟩
        have hb' := hb.1
        repeat rw [Below.heap_setCell _ _ _ _ (by dsimp only; omega)]
    · have d2 : decide (bs + (l.length : Int) ≤ pos) = true := by simp; omega
      have HF : Hid (findB ⟨ep, bs, l⟩ pos = none) := hid (by simp only [findB, if_pos h1]; exact List.getElem?_eq_none (by omega))
      go_enter Try.func35, Try.ntmps35
      go_wp2_with fail
      refine (HN.out _).mono ?_
      rintro e' w1 ⟨rfl, hb1⟩
      have hz : w.heap.size + 1 < w1.heap.size := by have := hb1.size; simp at this; omega
      have hz0 : w.heap.size < w1.heap.size := by omega
      have p0 : w1.cell? ⟨w.heap.size, 0, none⟩ = some (.int .u64 ep) := (Later.mk w1 hb1).cell (by go_simp)
      have p1 : w1.cell? ⟨w.heap.size, 1, none⟩ = some (.int .u64 bs) := (Later.mk w1 hb1).cell (by go_simp)
      have p2 : w1.cell? ⟨w.heap.size, 2, none⟩ = some (.slice a l.length c) := (Later.mk w1 hb1).cell (by go_simp)
      have r0 : Blk w1 (w.heap.size + 1) 41 #[.slice none 0 0, .slice none 0 0] := Blk.later (by (repeat (first | assumption | exact Blk.newAt _ _ _ (by first | (simp; done) | (simp; omega)) | refine Blk.alloc ?_ _ | refine Blk.drew ?_ | refine Blk.drewN ?_ _ | refine Blk.far ?_ (by first | (simp; done) | (simp; omega)) _))) hb1
      have RB := hid r0; clear r0
      have hbw : Below w.heap.size w w1 := by (repeat (first | exact Below.refl _ _ | assumption | (refine below_alloc ?_ _) | (refine Below.setCell ?_ (by first | omega | (simp; done) | (simp; omega)) _) | (refine Below.drew ?_) | (refine below_drewN ?_ _) | (refine below_then (by assumption) ?_)))
      go_wp2_with fail
      refine (HE.out _).mono ?_
      rintro e' w2 ⟨rfl, hb2⟩
      have R3 := RB.out.later hb2
      have c0 : w2.cell? ⟨w.heap.size + 1, 0, none⟩ = some (.slice none 0 0) := R3.cell 0
      have c1' : w2.cell? ⟨w.heap.size + 1, 1, none⟩ = some (.slice none 0 0) := R3.cell 1
      have f0 := R3.free 0
      have f1 := R3.free 1
      clear R3
      have hzz : w.heap.size + 1 < w2.heap.size := by have := hb2.size; omega
      have hbf : Below w.heap.size w w2 := below_then hb2 hbw
      go_wp2
      refine bodyPost_ret (v := .tuple #[.agg #[.slice none 0 0, .slice none 0 0], .bool false]) (by simp [results, Try.results35, go_sem, c0, c1']) rfl ?_
      unfold EntRet
      rw [HF.out]
      exact ⟨rfl, by (repeat (first | exact Below.refl _ _ | assumption | (refine below_alloc ?_ _) | (refine Below.setCell ?_ (by first | omega | (simp; done) | (simp; omega)) _) | (refine Below.drew ?_) | (refine below_drewN ?_ _) | (refine below_then (by assumption) ?_)))⟩
  · have d1 : decide (pos < bs) = true := by simp; omega
    have HF : Hid (findB ⟨ep, bs, l⟩ pos = none) := hid (by simp only [findB, if_neg h1])
    go_enter Try.func35, Try.ntmps35
    go_wp2_with fail
    refine (HN.out _).mono ?_
    rintro e' w1 ⟨rfl, hb1⟩
    have hz : w.heap.size + 1 < w1.heap.size := by have := hb1.size; simp at this; omega
    have hz0 : w.heap.size < w1.heap.size := by omega
    have p1 : w1.cell? ⟨w.heap.size, 1, none⟩ = some (.int .u64 bs) := (Later.mk w1 hb1).cell (by go_simp)
    have R3 : Blk w1 (w.heap.size + 1) 41 #[.slice none 0 0, .slice none 0 0] := Blk.later (by (repeat (first | assumption | exact Blk.newAt _ _ _ (by first | (simp; done) | (simp; omega)) | refine Blk.alloc ?_ _ | refine Blk.drew ?_ | refine Blk.drewN ?_ _ | refine Blk.far ?_ (by first | (simp; done) | (simp; omega)) _))) hb1
    have c0 : w1.cell? ⟨w.heap.size + 1, 0, none⟩ = some (.slice none 0 0) := R3.cell 0
    have c1' : w1.cell? ⟨w.heap.size + 1, 1, none⟩ = some (.slice none 0 0) := R3.cell 1
    have f0 := R3.free 0
    have f1 := R3.free 1
    clear R3
    have hbf : Below w.heap.size w w1 := by (repeat (first | exact Below.refl _ _ | assumption | (refine below_alloc ?_ _) | (refine Below.setCell ?_ (by first | omega | (simp; done) | (simp; omega)) _) | (refine Below.drew ?_) | (refine below_drewN ?_ _) | (refine below_then (by assumption) ?_)))
    go_wp2
    refine bodyPost_ret (v := .tuple #[.agg #[.slice none 0 0, .slice none 0 0], .bool false]) (by simp [results, Try.results35, go_sem, c0, c1']) rfl ?_
    unfold EntRet
    rw [HF.out]
    exact ⟨rfl, by (repeat (first | exact Below.refl _ _ | assumption | (refine below_alloc ?_ _) | (refine Below.setCell ?_ (by first | omega | (simp; done) | (simp; omega)) _) | (refine Below.drew ?_) | (refine below_drewN ?_ _) | (refine below_then (by assumption) ?_)))⟩
end Go.Proofs.Ytlbchenleimopaa
