/- What a segment of the version 2 becomes, by both; two of them the same. -/
import Derived.Test.YtlbchenleimopaaSuH
namespace Go.Proofs.Ytlbchenleimopaa
open Go.RowKit Go.Bs
set_option linter.unusedVariables false
set_option linter.unusedSimpArgs false

def up2R (g : Seg) : Seg × Int := if seg2R g then (if g.batches.length ≤ 16 then (g, 0) else (⟨0, []⟩, 15)) else (⟨0, []⟩, 3)

set_option maxRecDepth 100000 in
set_option maxHeartbeats 1600000 in
theorem ref36_up2 (e : Int) (l : List Batch) (a : Option Addr) (n c : Nat) (w : World) (h0 : 0 ≤ e) (hl : rBatches.r (· < w.heap.size) w [.slice a n c] l) (hfair : ∀ x ∈ l, Fair x.entries) :
    Calls Try.prog 18 #[.agg #[.int .u64 e, .slice a n c]] w (UpRet (up2R ⟨e, l⟩) w) := by
  obtain ⟨rfl, hm, _, _⟩ := sl_len hl
  have HR := hid (fun (W : World) (hW : Below w.heap.size w W) => ref35_right2 e l a _ c W h0 (lift hl hW) hfair)
  have HUR := hid (show up2R ⟨e, l⟩ = if seg2R ⟨e, l⟩ then (if l.length ≤ 16 then (⟨e, l⟩, 0) else (⟨0, []⟩, 15)) else (⟨0, []⟩, 3) from rfl)
  have HL := hid hl; clear hl hfair
  cases hs : seg2R ⟨e, l⟩
  · rw [hs] at HR
    have HF : Hid (up2R ⟨e, l⟩ = (⟨0, []⟩, 3)) := hid (by rw [HUR.out, hs]; rfl)
    clear hs
    go_enter Try.func18, Try.ntmps18
    go_wp2_with fail
    refine (HR.out _ (by (repeat (first | exact Below.refl _ _ | assumption | (refine below_alloc ?_ _) | (refine Below.setCell ?_ (by first | omega | (simp; done) | (simp; omega)) _) | (refine Below.drew ?_) | (refine below_drewN ?_ _) | (refine below_then (by assumption) ?_))))).mono ?_
    rintro e' w1 ⟨rfl, hb1⟩
    have hz : w.heap.size + 1 < w1.heap.size := by have := hb1.size; simp at this; omega
    have R3 : Blk w1 (w.heap.size + 1) 30 #[.int .u64 0, .slice none 0 0] := Blk.later (by (repeat (first | assumption | exact Blk.newAt _ _ _ (by first | (simp; done) | (simp; omega)) | refine Blk.alloc ?_ _ | refine Blk.drew ?_ | refine Blk.drewN ?_ _ | refine Blk.far ?_ (by first | (simp; done) | (simp; omega)) _))) hb1
    have c0 : w1.cell? ⟨w.heap.size + 1, 0, none⟩ = some (.int .u64 0) := R3.cell 0
    have c1 : w1.cell? ⟨w.heap.size + 1, 1, none⟩ = some (.slice none 0 0) := R3.cell 1
    have f0 := R3.free 0
    have f1 := R3.free 1
    clear R3
    go_wp2
    refine bodyPost_ret (v := .tuple #[.agg #[.int .u64 0, .slice none 0 0], .int .i64 3]) (by simp [results, Try.results18, go_sem, c0, c1]) rfl ?_
    unfold UpRet
    rw [HF.out]
    exact ⟨_, rfl, nil_batches, by (repeat (first | exact Below.refl _ _ | assumption | (refine below_alloc ?_ _) | (refine Below.setCell ?_ (by first | omega | (simp; done) | (simp; omega)) _) | (refine Below.drew ?_) | (refine below_drewN ?_ _) | (refine below_then (by assumption) ?_)))⟩
  · rw [hs] at HR
    by_cases h16 : l.length ≤ 16
    · have d1 : decide ((16 : Int) < (l.length : Int)) = false := by simp; omega
      have HF : Hid (up2R ⟨e, l⟩ = (⟨e, l⟩, 0)) := hid (by rw [HUR.out, hs, if_pos rfl, if_pos h16])
      clear hs
      go_enter Try.func18, Try.ntmps18
      go_wp2_with fail
      refine (HR.out _ (by (repeat (first | exact Below.refl _ _ | assumption | (refine below_alloc ?_ _) | (refine Below.setCell ?_ (by first | omega | (simp; done) | (simp; omega)) _) | (refine Below.drew ?_) | (refine below_drewN ?_ _) | (refine below_then (by assumption) ?_))))).mono ?_
      rintro e' w1 ⟨rfl, hb1⟩
      have hz : w.heap.size + 1 < w1.heap.size := by have := hb1.size; simp at this; omega
      have hz0 : w.heap.size < w1.heap.size := by omega
      have p0 : w1.cell? ⟨w.heap.size, 0, none⟩ = some (.int .u64 e) := (Later.mk w1 hb1).cell (by go_simp)
      have p1 : w1.cell? ⟨w.heap.size, 1, none⟩ = some (.slice a l.length c) := (Later.mk w1 hb1).cell (by go_simp)
      have R3 : Blk w1 (w.heap.size + 1) 30 #[.int .u64 0, .slice none 0 0] := Blk.later (by (repeat (first | assumption | exact Blk.newAt _ _ _ (by first | (simp; done) | (simp; omega)) | refine Blk.alloc ?_ _ | refine Blk.drew ?_ | refine Blk.drewN ?_ _ | refine Blk.far ?_ (by first | (simp; done) | (simp; omega)) _))) hb1
      have c0 : w1.cell? ⟨w.heap.size + 1, 0, none⟩ = some (.int .u64 0) := R3.cell 0
      have c1 : w1.cell? ⟨w.heap.size + 1, 1, none⟩ = some (.slice none 0 0) := R3.cell 1
      have f0 := R3.free 0
      have f1 := R3.free 1
      clear R3
      have hbw : Below w.heap.size w w1 := by (repeat (first | exact Below.refl _ _ | assumption | (refine below_alloc ?_ _) | (refine Below.setCell ?_ (by first | omega | (simp; done) | (simp; omega)) _) | (refine Below.drew ?_) | (refine below_drewN ?_ _) | (refine below_then (by assumption) ?_)))
      go_wp2
      refine bodyPost_ret (v := .tuple #[.agg #[.int .u64 e, .slice a l.length c], .int .i64 0]) (by simp [results, Try.results18, go_sem, c0, c1]) rfl ?_
      unfold UpRet
      rw [HF.out]
      refine ⟨_, rfl, ?_, by (repeat (first | exact Below.refl _ _ | assumption | (refine below_alloc ?_ _) | (refine Below.setCell ?_ (by first | omega | (simp; done) | (simp; omega)) _) | (refine Below.drew ?_) | (refine below_drewN ?_ _) | (refine below_then (by assumption) ?_)))⟩
      exact rBatches.mono (rBatches.keep HL.out fun b hb => by
        have hb' : b < w.heap.size := hb
        repeat rw [Below.heap_setCell _ _ _ _ (by dsimp only; omega)]
        exact hbw.block b hb') fun b hb => by have hb' : b < w.heap.size := hb; simp; omega
    · have d1 : decide ((16 : Int) < (l.length : Int)) = true := by simp; omega
      have HF : Hid (up2R ⟨e, l⟩ = (⟨0, []⟩, 15)) := hid (by rw [HUR.out, hs, if_pos rfl, if_neg h16])
      clear hs
      go_enter Try.func18, Try.ntmps18
      go_wp2_with fail
      refine (HR.out _ (by (repeat (first | exact Below.refl _ _ | assumption | (refine below_alloc ?_ _) | (refine Below.setCell ?_ (by first | omega | (simp; done) | (simp; omega)) _) | (refine Below.drew ?_) | (refine below_drewN ?_ _) | (refine below_then (by assumption) ?_))))).mono ?_
      rintro e' w1 ⟨rfl, hb1⟩
      have hz : w.heap.size + 1 < w1.heap.size := by have := hb1.size; simp at this; omega
      have hz0 : w.heap.size < w1.heap.size := by omega
      have p1 : w1.cell? ⟨w.heap.size, 1, none⟩ = some (.slice a l.length c) := (Later.mk w1 hb1).cell (by go_simp)
      have R3 : Blk w1 (w.heap.size + 1) 30 #[.int .u64 0, .slice none 0 0] := Blk.later (by (repeat (first | assumption | exact Blk.newAt _ _ _ (by first | (simp; done) | (simp; omega)) | refine Blk.alloc ?_ _ | refine Blk.drew ?_ | refine Blk.drewN ?_ _ | refine Blk.far ?_ (by first | (simp; done) | (simp; omega)) _))) hb1
      have c0 : w1.cell? ⟨w.heap.size + 1, 0, none⟩ = some (.int .u64 0) := R3.cell 0
      have c1 : w1.cell? ⟨w.heap.size + 1, 1, none⟩ = some (.slice none 0 0) := R3.cell 1
      have f0 := R3.free 0
      have f1 := R3.free 1
      clear R3
      go_wp2
      refine bodyPost_ret (v := .tuple #[.agg #[.int .u64 0, .slice none 0 0], .int .i64 15]) (by simp [results, Try.results18, go_sem, c0, c1]) rfl ?_
      unfold UpRet
      rw [HF.out]
      exact ⟨_, rfl, nil_batches, by (repeat (first | exact Below.refl _ _ | assumption | (refine below_alloc ?_ _) | (refine Below.setCell ?_ (by first | omega | (simp; done) | (simp; omega)) _) | (refine Below.drew ?_) | (refine below_drewN ?_ _) | (refine below_then (by assumption) ?_)))⟩

set_option maxRecDepth 100000 in
set_option maxHeartbeats 1600000 in
theorem upgrade_Up2 (e : Int) (l : List Batch) (a : Option Addr) (n c : Nat) (w : World) (hl : rBatches.r (· < w.heap.size) w [.slice a n c] l) (hfair : ∀ x ∈ l, Fair x.entries) (hlen : l.length ≤ 1000000000000) (hm' : ∀ z ∈ l, MildB z) :
    Calls Try.prog 17 #[.agg #[.int .u64 e, .slice a n c]] w (UpRet (up2R ⟨e, l⟩) w) := by
  obtain ⟨rfl, hm, _, _⟩ := sl_len hl
  have HR := hid (fun (W : World) (hW : Below w.heap.size w W) => legacy_right2 e l a _ c W (lift hl hW) hfair)
  have HC := hid (fun (W : World) (hW : Below w.heap.size w W) => segment_copy e l a _ c W (lift hl hW) hlen hm')
  have HUR := hid (show up2R ⟨e, l⟩ = if seg2R ⟨e, l⟩ then (if l.length ≤ 16 then (⟨e, l⟩, 0) else (⟨0, []⟩, 15)) else (⟨0, []⟩, 3) from rfl)
  clear hl hfair hm'
  cases hs : seg2R ⟨e, l⟩
  · rw [hs] at HR
    have HF : Hid (up2R ⟨e, l⟩ = (⟨0, []⟩, 3)) := hid (by rw [HUR.out, hs]; rfl)
    clear hs
    go_enter Try.func17, Try.ntmps17
    go_wp2_with fail
    refine (HR.out _ (by (repeat (first | exact Below.refl _ _ | assumption | (refine below_alloc ?_ _) | (refine Below.setCell ?_ (by first | omega | (simp; done) | (simp; omega)) _) | (refine Below.drew ?_) | (refine below_drewN ?_ _) | (refine below_then (by assumption) ?_))))).mono ?_
    rintro e' w1 ⟨rfl, hb1⟩
    have hz : w.heap.size + 1 < w1.heap.size := by have := hb1.size; simp at this; omega
    have R3 : Blk w1 (w.heap.size + 1) 30 #[.int .u64 0, .slice none 0 0] := Blk.later (by (repeat (first | assumption | exact Blk.newAt _ _ _ (by first | (simp; done) | (simp; omega)) | refine Blk.alloc ?_ _ | refine Blk.drew ?_ | refine Blk.drewN ?_ _ | refine Blk.far ?_ (by first | (simp; done) | (simp; omega)) _))) hb1
    have c0 : w1.cell? ⟨w.heap.size + 1, 0, none⟩ = some (.int .u64 0) := R3.cell 0
    have c1 : w1.cell? ⟨w.heap.size + 1, 1, none⟩ = some (.slice none 0 0) := R3.cell 1
    have f0 := R3.free 0
    have f1 := R3.free 1
    clear R3
    go_wp2
    refine bodyPost_ret (v := .tuple #[.agg #[.int .u64 0, .slice none 0 0], .int .i64 3]) (by simp [results, Try.results17, go_sem, c0, c1]) rfl ?_
    unfold UpRet
    rw [HF.out]
    exact ⟨_, rfl, nil_batches, by (repeat (first | exact Below.refl _ _ | assumption | (refine below_alloc ?_ _) | (refine Below.setCell ?_ (by first | omega | (simp; done) | (simp; omega)) _) | (refine Below.drew ?_) | (refine below_drewN ?_ _) | (refine below_then (by assumption) ?_)))⟩
  · rw [hs] at HR
    have HF : Hid (up2R ⟨e, l⟩ = if l.length ≤ 16 then (⟨e, l⟩, 0) else (⟨0, []⟩, 15)) := hid (by rw [HUR.out, hs, if_pos rfl])
    clear hs
    go_enter Try.func17, Try.ntmps17
    go_wp2_with fail
    refine (HR.out _ (by (repeat (first | exact Below.refl _ _ | assumption | (refine below_alloc ?_ _) | (refine Below.setCell ?_ (by first | omega | (simp; done) | (simp; omega)) _) | (refine Below.drew ?_) | (refine below_drewN ?_ _) | (refine below_then (by assumption) ?_))))).mono ?_
    rintro e' w1 ⟨rfl, hb1⟩
    have hbw : Below w.heap.size w w1 := by (repeat (first | exact Below.refl _ _ | assumption | (refine below_alloc ?_ _) | (refine Below.setCell ?_ (by first | omega | (simp; done) | (simp; omega)) _) | (refine Below.drew ?_) | (refine below_drewN ?_ _) | (refine below_then (by assumption) ?_)))
    have hz : w.heap.size + 1 < w1.heap.size := by have := hb1.size; simp at this; omega
    have hz0 : w.heap.size < w1.heap.size := by omega
    have p0 : w1.cell? ⟨w.heap.size, 0, none⟩ = some (.int .u64 e) := (Later.mk w1 hb1).cell (by go_simp)
    have p1 : w1.cell? ⟨w.heap.size, 1, none⟩ = some (.slice a l.length c) := (Later.mk w1 hb1).cell (by go_simp)
    have r0 : Blk w1 (w.heap.size + 1) 30 #[.int .u64 0, .slice none 0 0] := Blk.later (by (repeat (first | assumption | exact Blk.newAt _ _ _ (by first | (simp; done) | (simp; omega)) | refine Blk.alloc ?_ _ | refine Blk.drew ?_ | refine Blk.drewN ?_ _ | refine Blk.far ?_ (by first | (simp; done) | (simp; omega)) _))) hb1
    have RB := hid r0; clear r0
    go_wp2_with fail
    refine (HC.out _ hbw).mono ?_
    rintro e' w2 ⟨v2, rfl, hr2, hb2⟩
    obtain ⟨a2, c2, hv2, _, _⟩ := sl_form hr2
    simp only [List.cons.injEq, and_true] at hv2
    subst hv2
    have HR2 := hid hr2; clear hr2
    go_wp2_with fail
    refine (upgrade_sized e _ _ _ _ hlen).mono ?_
    rintro e' w3 ⟨rfl, hb3⟩
    have R3 := RB.out.later (below_then hb3 hb2)
    have c0 : w3.cell? ⟨w.heap.size + 1, 0, none⟩ = some (.int .u64 0) := R3.cell 0
    have c1 : w3.cell? ⟨w.heap.size + 1, 1, none⟩ = some (.slice none 0 0) := R3.cell 1
    have f0 := R3.free 0
    have f1 := R3.free 1
    have hzz : w.heap.size + 1 < w3.heap.size := by have := hb3.size; have := hb2.size; omega
    clear R3
    have hbf : Below w.heap.size w w3 := hbw.trans ((hb2.mono (by omega)).trans (hb3.mono (by have := hb2.size; omega)))
    by_cases h16 : l.length ≤ 16
    · rw [if_pos h16]
      have HF2 : Hid (up2R ⟨e, l⟩ = (⟨e, l⟩, 0)) := hid (by rw [HF.out, if_pos h16])
      go_wp2
      refine bodyPost_ret (v := .tuple #[.agg #[.int .u64 e, .slice a2 l.length c2], .int .i64 0]) (by simp [results, Try.results17, go_sem, c0, c1]) rfl ?_
      unfold UpRet
      rw [HF2.out]
      refine ⟨_, rfl, ?_, by (repeat (first | exact Below.refl _ _ | assumption | (refine below_alloc ?_ _) | (refine Below.setCell ?_ (by first | omega | (simp; done) | (simp; omega)) _) | (refine Below.drew ?_) | (refine below_drewN ?_ _) | (refine below_then (by assumption) ?_)))⟩
      have hs1 : w1.heap.size ≤ w2.heap.size := hb2.size
      refine rBatches.mono (rBatches.keep HR2.out fun b hb => ?_) fun b hb => by have := hb.2; have := hb3.size; simp; omega
      have hb' := hb.1
      repeat rw [Below.heap_setCell _ _ _ _ (by dsimp only; omega)]
      exact hb3.block b hb.2
    · rw [if_neg h16]
      have HF2 : Hid (up2R ⟨e, l⟩ = (⟨0, []⟩, 15)) := hid (by rw [HF.out, if_neg h16])
      go_wp2
      refine bodyPost_ret (v := .tuple #[.agg #[.int .u64 0, .slice none 0 0], .int .i64 15]) (by simp [results, Try.results17, go_sem, c0, c1]) rfl ?_
      unfold UpRet
      rw [HF2.out]
      exact ⟨_, rfl, nil_batches, by (repeat (first | exact Below.refl _ _ | assumption | (refine below_alloc ?_ _) | (refine Below.setCell ?_ (by first | omega | (simp; done) | (simp; omega)) _) | (refine Below.drew ?_) | (refine below_drewN ?_ _) | (refine below_then (by assumption) ?_)))⟩

set_option maxHeartbeats 800000 in
theorem ref35_same2 (ex ey : Int) (x y : List Batch) (a a' : Option Addr) (n c n' c' : Nat) (w : World) (hx : rBatches.r (· < w.heap.size) w [.slice a n c] x) (hy : rBatches.r (· < w.heap.size) w [.slice a' n' c'] y) :
    Calls Try.prog 20 #[.agg #[.int .u64 ex, .slice a n c], .agg #[.int .u64 ey, .slice a' n' c']] w fun r w' => r = .returned (.bool (decide ((⟨ex, x⟩ : Seg) = ⟨ey, y⟩))) ∧ Below w.heap.size w w' := by
  have hc := fun (W : World) (hW : Below w.heap.size w W) => ref34_same ex ey x y a a' n c n' c' W (lift hx hW) (lift hy hW)
  generalize decide ((⟨ex, x⟩ : Seg) = ⟨ey, y⟩) = bb at *
  have HC := hid hc; clear hc hx hy
  go_enter Try.func20, Try.ntmps20
  go_wp2_with fail
  refine (HC.out _ (by (repeat (first | exact Below.refl _ _ | assumption | (refine below_alloc ?_ _) | (refine Below.setCell ?_ (by first | omega | (simp; done) | (simp; omega)) _) | (refine Below.drew ?_) | (refine below_drewN ?_ _) | (refine below_then (by assumption) ?_))))).mono ?_
  rintro r w1 ⟨rfl, hb1⟩
  go_wp2
  go_ret
  exact ⟨rfl, by (repeat (first | exact Below.refl _ _ | assumption | (refine below_alloc ?_ _) | (refine Below.setCell ?_ (by first | omega | (simp; done) | (simp; omega)) _) | (refine Below.drew ?_) | (refine below_drewN ?_ _) | (refine below_then (by assumption) ?_)))⟩

theorem sl_drop {α : Type} {sz : Nat} {A : Rp α} {S : Nat → Prop} {w : World} {xs : List α} {b off : Nat} {n c k : Nat} (h : (rSl sz A).r S w [.slice (some ⟨b, off, none⟩) n c] xs) (hk : k ≤ xs.length) : (rSl sz A).r S w [.slice (some ⟨b, off + k * sz, none⟩) (n - k) (c - k)] (xs.drop k) := by
  obtain ⟨a', c', e, h1, h2, h3⟩ := h
  simp at e
  obtain ⟨rfl, rfl, rfl⟩ := e
  refine rSl_mk (a := some ⟨b, off + k * sz, none⟩) (c := c - k) (by simp) (by simp; omega) (by omega) ?_
  rcases h3 with rfl | ⟨b', off', e', hS, hr⟩
  · exact .inl (by simp)
  · simp at e'
    obtain ⟨rfl, rfl⟩ := e'
    refine .inr ⟨b, off + k * sz, rfl, hS, fun i x hi => ?_⟩
    rw [List.getElem?_drop] at hi
    obtain ⟨cs, h4, h5, h6⟩ := hr (k + i) x hi
    refine ⟨cs, h4, fun j v hj => ?_, h6⟩
    have := h5 j v hj
    rw [show off + k * sz + i * sz + j = off + (k + i) * sz + j by rw [Nat.add_mul]; omega]
    exact this

def long2 (l : List Batch) : Bool := decide (40 < l.length) || (long34 (l.take (l.length / 2)) || long34 (l.drop (l.length / 2)))
theorem long2_no {l : List Batch} (h : long2 l = false) : l.length ≤ 40 ∧ ∀ b ∈ l, b.entries.length ≤ 30 ∧ total b.entries ≤ 300 ∧ ∀ x ∈ b.entries, x.data.length ≤ 500 ∧ x.links.length ≤ 50 ∧ ∀ y ∈ x.links, y.backs.length ≤ 50 := by
  simp only [long2, Bool.or_eq_false_iff, decide_eq_false_iff_not] at h
  obtain ⟨h1, h2, h3⟩ := h
  refine ⟨by omega, fun b hb => ?_⟩
  rw [← List.take_append_drop (l.length / 2) l] at hb
  rcases List.mem_append.1 hb with hb | hb
  · exact (long34_no h2).2 b hb
  · exact (long34_no h3).2 b hb

set_option maxRecDepth 100000 in
set_option maxHeartbeats 1600000 in
theorem law35_long2 (e : Int) (l : List Batch) (a : Option Addr) (n c : Nat) (w : World) (hl : rBatches.r (· < w.heap.size) w [.slice a n c] l) :
    Calls Try.prog 16 #[.agg #[.int .u64 e, .slice a n c]] w fun r w' => r = .returned (.bool (long2 l)) ∧ Below w.heap.size w w' := by
  obtain ⟨rfl, hm, hm2, hm3⟩ := sl_len hl
  by_cases h40 : l.length ≤ 40
  · have d1 : decide ((40 : Int) < (l.length : Int)) = false := by simp; omega
    obtain ⟨q, hq⟩ : ∃ q, l.length / 2 = q := ⟨_, rfl⟩
    have hff : Hid (long2 l = (long34 (l.take q) || long34 (l.drop q))) := hid (by simp only [long2]; rw [hq, decide_eq_false (by omega)]; rfl)
    have hqI : Hid ((l.length : Int) / 2 = q) := hid (by omega)
    rcases Nat.eq_zero_or_pos l.length with hz | hz
    · have hl0 : l = [] := List.eq_nil_of_length_eq_zero hz
      subst hl0
      have hf2 : Hid (long2 [] = false) := hid rfl
      clear hff
      have hq0 : q = 0 := by rw [← hq]; rfl
      subst hq0
      have HN := hid (fun (W : World) (a : Option Addr) (c : Nat) (hc : c ≤ 9223372036854775807) => law34_long 0 [] a 0 c W (rSl_mk rfl (Nat.zero_le _) (by unfold maxLen; omega) (.inl rfl)))
      have e0 : long34 [] = false := rfl
      rw [e0] at HN
      clear hl hq hqI
      simp only [List.length_nil] at *
      go_enter Try.func16, Try.ntmps16
      go_wp2_with fail
      refine (HN.out _ a c hm3).mono ?_
      rintro r w1 ⟨rfl, hb1⟩
      have hbw : Below w.heap.size w w1 := by (repeat (first | exact Below.refl _ _ | assumption | (refine below_alloc ?_ _) | (refine Below.setCell ?_ (by first | omega | (simp; done) | (simp; omega)) _) | (refine Below.drew ?_) | (refine below_drewN ?_ _) | (refine below_then (by assumption) ?_)))
      have c1 : w1.cell? ⟨w.heap.size, 1, none⟩ = some (.slice a 0 c) := (Later.mk w1 hb1).cell (by go_simp)
      have hz1 : w.heap.size < w1.heap.size := by have := hb1.size; simp at this; omega
      go_wp2_with fail
      refine (HN.out _ a c hm3).mono ?_
      rintro r w2 ⟨rfl, hb2⟩
      go_wp2
      go_ret
      exact ⟨by rw [hf2.out]; rfl, below_then hb2 hbw⟩
    · obtain ⟨b, o, hA, hbb, _⟩ := batch_at hl (i := 0) hz
      subst hA
      have HL := hid hl; clear hl
      have hq1 : q < l.length := by omega
      go_enter Try.func16, Try.ntmps16
      go_wp2_with fail
      refine (law34_long 0 (l.take q) _ _ _ _ (sl_take (lift HL.out (by (repeat (first | exact Below.refl _ _ | assumption | (refine below_alloc ?_ _) | (refine Below.setCell ?_ (by first | omega | (simp; done) | (simp; omega)) _) | (refine Below.drew ?_) | (refine below_drewN ?_ _) | (refine below_then (by assumption) ?_))))) (by omega))).mono ?_
      rintro r w1 ⟨rfl, hb1⟩
      have hbw : Below w.heap.size w w1 := by (repeat (first | exact Below.refl _ _ | assumption | (refine below_alloc ?_ _) | (refine Below.setCell ?_ (by first | omega | (simp; done) | (simp; omega)) _) | (refine Below.drew ?_) | (refine below_drewN ?_ _) | (refine below_then (by assumption) ?_)))
      have c1 : w1.cell? ⟨w.heap.size, 1, none⟩ = some (.slice (some ⟨b, o, none⟩) l.length c) := (Later.mk w1 hb1).cell (by go_simp)
      have hz1 : w.heap.size < w1.heap.size := by have := hb1.size; simp at this; omega
      cases hs : long34 (l.take q)
      · have hf2 : Hid (long2 l = long34 (l.drop q)) := hid (by rw [hff.out, hs]; rfl)
        clear hs
        go_wp2_with fail
        refine (law34_long 0 (l.drop q) _ _ _ _ (sl_drop (lift HL.out hbw) (by omega))).mono ?_
        rintro r w2 ⟨rfl, hb2⟩
        go_wp2
        go_ret
        exact ⟨by rw [hf2.out]; rfl, below_then hb2 hbw⟩
      · have hf2 : Hid (long2 l = true) := hid (by rw [hff.out, hs]; rfl)
        clear hs
        go_wp2
        go_ret
        exact ⟨by rw [hf2.out]; rfl, by (repeat (first | exact Below.refl _ _ | assumption | (refine below_alloc ?_ _) | (refine Below.setCell ?_ (by first | omega | (simp; done) | (simp; omega)) _) | (refine Below.drew ?_) | (refine below_drewN ?_ _) | (refine below_then (by assumption) ?_)))⟩
  · have d1 : decide ((40 : Int) < (l.length : Int)) = true := by simp; omega
    have hff : Hid (long2 l = true) := hid (by simp only [long2]; rw [decide_eq_true (by omega)]; rfl)
    clear hl
    go_enter Try.func16, Try.ntmps16
    go_wp2
    go_ret
    exact ⟨by rw [hff.out]; rfl, by (repeat (first | exact Below.refl _ _ | assumption | (refine below_alloc ?_ _) | (refine Below.setCell ?_ (by first | omega | (simp; done) | (simp; omega)) _) | (refine Below.drew ?_) | (refine below_drewN ?_ _) | (refine below_then (by assumption) ?_)))⟩
end Go.Proofs.Ytlbchenleimopaa
